/- Several texts of this proof as one: WfP, WfA, WfB, WfC, WfD, WfE. Laid by merge.py. -/
import Derived.Test.YtlehpgokjppccaaTfA
import Derived.Test.YtlehpgokjppccaaTfB
import Derived.Test.YtlehpgokjppccaaTfC
import Derived.Test.YtlehpgokjppccaaTfD
import Derived.Test.YtlehpgokjppccaaTfF
import Derived.ArgAppend
import Derived.BigQuiet
import Derived.ChangeKeysEq
import Derived.Deep.DeepCutAuto
import Derived.Deep.MidRow
import Derived.Deep.QuietTactic
import Derived.Deep.RegionHeld3
import Derived.Deep.RegionLaw
import Derived.Handy
import Derived.Laws.Externs
import Derived.Laws.ResultCell
import Derived.Lib.AppendStr
import Derived.Lib.Hide
import Derived.Lib.MakeNoZero
import Derived.Lib.SlBuf
import Derived.Lib.SliceRun
import Derived.Lib.SmallJoins
import Derived.Maps.AppendAt
import Derived.Test.YtlehpgokjppccaaProg
import Derived.WalkKit
import Derived.WalkMore
import Derived.WalkSpells
namespace Go.Proofs.Ytlehpgokjppccaa
section
open Go.RowKit
set_option maxRecDepth 100000
def wsign : List Int := [116, 111, 109, 101]
theorem wsign_isB : IsB wsign := by unfold wsign IsB; decide
def sealL (l : List Int) : List Int := l ++ [sumI l % 256, sumI l / 256 % 256, sumI l / 65536 % 256, sumI l / 16777216]
theorem sealL_isB {l : List Int} (h : IsB l) : IsB (sealL l) := by
  refine isB_append h ?_
  have := sumI_bd l
  intro x hx
  simp only [List.mem_cons, List.not_mem_nil, or_false] at hx
  rcases hx with rfl | rfl | rfl | rfl <;> omega
theorem sealL_length (l : List Int) : (sealL l).length = l.length + 4 := by simp [sealL]
def whB (s k : Int) : List Int := wsign ++ (fxL s 4 ++ fxL k 8)
theorem whB_length (s k : Int) : (whB s k).length = 16 := by simp [whB, wsign, fxL_length]
theorem whB_isB (s k : Int) : IsB (whB s k) := isB_append wsign_isB (isB_append (fxL_isB _ _) (fxL_isB _ _))
def whL (s k : Int) : List Int := sealL (whB s k)
theorem whL_length (s k : Int) : (whL s k).length = 20 := by rw [whL, sealL_length, whB_length]
theorem whL_isB (s k : Int) : IsB (whL s k) := sealL_isB (whB_isB s k)
theorem nxI_bd (h x : Int) : 0 ≤ nxI h x ∧ nxI h x ≤ 18446744073709551615 := by
  unfold nxI
  simp only [IntKind.wrap_u64]
  omega
theorem nextI_bd {h : Int} (hh : 0 ≤ h ∧ h ≤ 18446744073709551615) (l : List Int) : 0 ≤ nextI h l ∧ nextI h l ≤ 18446744073709551615 := by
  induction l generalizing h with
  | nil => exact hh
  | cons x l ih => exact ih (nxI_bd h x)
def lnkB (pg cm : Int) (b : List Int) : List Int := fxL pg 4 ++ (fxL cm 4 ++ b)
theorem lnkB_isB {pg cm : Int} {b : List Int} (h : IsB b) : IsB (lnkB pg cm b) := isB_append (fxL_isB _ _) (isB_append (fxL_isB _ _) h)
/-- A frame's link. -/
def lnk (p pg cm : Int) (b : List Int) : Int := nextI p (lnkB pg cm b)
theorem lnk_bd {p : Int} (h : 0 ≤ p ∧ p ≤ 18446744073709551615) (pg cm : Int) (b : List Int) : 0 ≤ lnk p pg cm b ∧ lnk p pg cm b ≤ 18446744073709551615 := nextI_bd h _
/-- A frame's bytes. -/
def wEnt (p pg cm : Int) (b : List Int) : List Int := fxL pg 4 ++ (fxL cm 4 ++ (fxL (lnk p pg cm b) 8 ++ b))
theorem wEnt_length (p pg cm : Int) (b : List Int) : (wEnt p pg cm b).length = 16 + b.length := by simp [wEnt, fxL_length]; omega
theorem wEnt_isB {p pg cm : Int} {b : List Int} (h : IsB b) : IsB (wEnt p pg cm b) := isB_append (fxL_isB _ _) (isB_append (fxL_isB _ _) (isB_append (fxL_isB _ _) h))
def okW (s : Nat) (f : Fr) : Prop := 1 ≤ f.pg ∧ f.pg ≤ 1048576 ∧ 1 ≤ f.cm ∧ f.cm ≤ 1048576 ∧ f.b.length = s ∧ IsB f.b
def wLast (p : Int) : List Fr → Int
  | [] => p
  | f :: F => wLast (lnk p f.pg f.cm f.b) F
def wEnts (p : Int) : List Fr → List Int
  | [] => []
  | f :: F => wEnt p f.pg f.cm f.b ++ wEnts (lnk p f.pg f.cm f.b) F
theorem wLast_bd {p : Int} (h : 0 ≤ p ∧ p ≤ 18446744073709551615) (F : List Fr) : 0 ≤ wLast p F ∧ wLast p F ≤ 18446744073709551615 := by
  induction F generalizing p with
  | nil => exact h
  | cons f F ih => exact ih (lnk_bd h _ _ _)
theorem wLast_snoc (p : Int) (F : List Fr) (f : Fr) : wLast p (F ++ [f]) = lnk (wLast p F) f.pg f.cm f.b := by
  induction F generalizing p with
  | nil => rfl
  | cons g F ih => exact ih _
theorem wEnts_append (p : Int) (F G : List Fr) : wEnts p (F ++ G) = wEnts p F ++ wEnts (wLast p F) G := by
  induction F generalizing p with
  | nil => rfl
  | cons f F ih => simp only [List.cons_append, wEnts, wLast, ih, List.append_assoc]
theorem wEnts_snoc (p : Int) (F : List Fr) (f : Fr) : wEnts p (F ++ [f]) = wEnts p F ++ wEnt (wLast p F) f.pg f.cm f.b := by
  rw [wEnts_append]; simp [wEnts]
theorem wEnts_length (p : Int) {s : Nat} {F : List Fr} (h : ∀ f ∈ F, f.b.length = s) : (wEnts p F).length = F.length * (s + 16) := by
  induction F generalizing p with
  | nil => simp [wEnts]
  | cons f F ih =>
    rw [wEnts, List.length_append, ih _ fun g hg => h g (List.mem_cons_of_mem _ hg), wEnt_length, h f (List.mem_cons_self ..), List.length_cons, Nat.add_mul]
    omega
theorem wEnts_isB (p : Int) {F : List Fr} (h : ∀ f ∈ F, IsB f.b) : IsB (wEnts p F) := by
  induction F generalizing p with
  | nil => intro x hx; simp [wEnts] at hx
  | cons f F ih => exact isB_append (wEnt_isB (h f (List.mem_cons_self ..))) (ih _ fun g hg => h g (List.mem_cons_of_mem _ hg))
/-- A whole log. -/
def wlog (s k : Int) (F : List Fr) : List Int := whL s k ++ wEnts (nextI k (whL s k)) F
end
section
open Go.RowKit
set_option maxRecDepth 100000
set_option linter.unusedVariables false
set_option linter.unusedSimpArgs false
theorem wsize_any (w : World) (n : Int) (_hn : i64ok n) : Calls Try.prog 52 #[.int .i64 n] w fun e w' => e = .returned (.bool (decide (isSize n))) ∧ w = w' := by
  by_cases h0 : 256 ≤ n
  · by_cases h1 : n ≤ 4096
    · have hb := size_bits h0 h1
      have hw : IntKind.i64.wrap (n - 1) = n - 1 := IntWalk.i64_in _ (by omega)
      go_enter Try.func52, Try.ntmps52
      go_wp2
      go_ret
      exact ⟨rfl, rfl⟩
    · have hs : decide (isSize n) = false := decide_eq_false (by unfold isSize; omega)
      rw [hs]
      go_enter Try.func52, Try.ntmps52
      go_wp2
      go_ret
      exact ⟨rfl, rfl⟩
  · have hs : decide (isSize n) = false := decide_eq_false (by unfold isSize; omega)
    rw [hs]
    go_enter Try.func52, Try.ntmps52
    go_wp2
    go_ret
    exact ⟨rfl, rfl⟩

theorem wfour_any (w : World) (n : Int) (h0 : 0 ≤ n) (h1 : n ≤ 9223372036854775807) :
    Calls Try.prog 53 #[.int .i64 n] w fun e w' => ∃ A c, e = .returned (.slice A 4 c) ∧ OwnB w' w.heap.size A 4 c (fxL n 4) ∧ Below w.heap.size w w' := by
  have hw : IntKind.u64.wrap n = n := IntWalk.u64_in _ (by omega)
  go_enter Try.func53, Try.ntmps53
  go_wp2_with fail
  refine (fixed_put _ n 4 h0 (by omega) (by decide) (by decide)).mono ?_
  rintro e w1 ⟨A, c, rfl, h⟩
  have HH := Lib.hid h; clear h
  go_wp2
  go_ret
  exact ⟨A, c, rfl, HH.out⟩

theorem rows3 {w : World} {A1 A2 A3 : Option Addr} {n1 c1 n2 c2 n3 c3 : Nat} {l1 l2 l3 : List Int} (t : TypeId) (fr : Nat × Nat)
    (e1 : l1.length = n1) (k1 : n1 ≤ c1) (m1 : c1 ≤ maxLen) (r1 : Rd w A1 l1) (e2 : l2.length = n2) (k2 : n2 ≤ c2) (m2 : c2 ≤ maxLen) (r2 : Rd w A2 l2) (e3 : l3.length = n3) (k3 : n3 ≤ c3) (m3 : c3 ≤ maxLen) (r3 : Rd w A3 l3) :
    RdRows (w.alloc (.cells #[.slice A1 n1 c1, .slice A2 n2 c2, .slice A3 n3 c3] t fr)) (some ⟨w.heap.size, 0, none⟩) [l1, l2, l3] := by
  have hb : Below w.heap.size w (w.alloc (.cells #[.slice A1 n1 c1, .slice A2 n2 c2, .slice A3 n3 c3] t fr)) := (Below.refl _ _).alloc (Nat.le_refl _) _
  subst e1 e2 e3
  refine .inr ⟨_, 0, rfl, fun i hi => ?_⟩
  simp at hi
  rcases (by omega : i = 0 ∨ i = 1 ∨ i = 2) with rfl | rfl | rfl
  · exact ⟨A1, c1, by simp [go_sem, Joins.cell_alloc_mark_at, rw_], by simpa [rw_] using k1, m1, r1.keep hb⟩
  · exact ⟨A2, c2, by simp [go_sem, Joins.cell_alloc_mark_at, rw_], by simpa [rw_] using k2, m2, r2.keep hb⟩
  · exact ⟨A3, c3, by simp [go_sem, Joins.cell_alloc_mark_at, rw_], by simpa [rw_] using k3, m3, r3.keep hb⟩

set_option maxHeartbeats 4000000 in
theorem wStart_ok (w : World) (s k : Int) (hs : isSize s) (hk : 0 ≤ k ∧ k ≤ 18446744073709551615) (R : Ending → World → Prop)
    (hR : R = fun e w' => ∃ A c, e = .returned (.tuple #[.slice A 20 c, .int .i64 0]) ∧ OwnB w' w.heap.size A 20 c (whL s k) ∧ Below w.heap.size w w') :
    Calls Try.prog 33 #[.int .i64 s, .int .u64 k] w R := by
  have kc := fun (w : World) (C : Array Value) (n c g : Nat) (hg : g = w.heap.size) => Joins.run_convert_bytes_const_at (P := Try.prog) w 24 5 C n c g hg Try.underlying24 Try.underlying5
  have HR := Lib.hid hR; clear hR
  have HK := Lib.hid hk; clear hk
  have hsb : 256 ≤ s ∧ s ≤ 4096 := by unfold isSize at hs; omega
  have HD := Lib.hid (decide_eq_true hs)
  clear hs
  obtain ⟨W0, hW0⟩ : ∃ W, W = w.alloc (.cells #[.int .u8 116, .int .u8 111, .int .u8 109, .int .u8 101] 5 (4, 5)) := ⟨_, rfl⟩
  have hB0 : Below w.heap.size w W0 := by rw [hW0]; exact (Below.refl _ _).alloc (Nat.le_refl _) _
  have HL := Lib.hid (show Rd W0 (some ⟨w.heap.size, 0, none⟩) wsign by rw [hW0]; exact Rd.lit (heap_alloc_new w _) rfl)
  have HW := Lib.hid hW0; clear hW0
  go_enter Try.func33, Try.ntmps33
  go_wp2_with fail
  refine (wsize_any _ s (by unfold i64ok; omega)).mono ?_
  rintro e w1 ⟨rfl, rfl⟩
  simp only [HD.out]
  go_wp2_with fail
  rw [← HW.out]
  clear HW kc
  refine (wfour_any _ s (by omega) (by omega)).mono ?_
  rintro e w1 ⟨A1, c1, rfl, hown1, hb1⟩
  have HO1 := Lib.hid hown1; clear hown1
  have hB1 := hB0.trans (hb1.mono hB0.size)
  have HL1 := Lib.hid (HL.out.keep hb1); clear HL hb1
  go_wp2_with fail
  refine (fixed_put _ k 8 HK.out.1 HK.out.2 (by decide) (by decide)).mono ?_
  rintro e w2 ⟨A2, c2, rfl, hown2, hb2⟩
  have HO2 := Lib.hid hown2; clear hown2
  have hB2 := hB1.trans (hb2.mono hB1.size)
  have HL2 := Lib.hid (HL1.out.keep hb2); clear HL1
  have HO12 := Lib.hid (HO1.out.keep hb2); clear HO1 hb2
  go_wp2_with fail
  refine (join_any _ _ 3 3 [wsign, fxL s 4, fxL k 8] rfl (by decide) (Nat.le_refl _) (by decide) (rows3 _ _ rfl (Nat.le_refl 4) (by decide) HL2.out (fxL_length _ _) HO12.out.cap.1 HO12.out.cap.2 HO12.out.rd (fxL_length _ _) HO2.out.cap.1 HO2.out.cap.2 HO2.out.rd) (by simp [fxL_length, wsign])).mono ?_
  rintro e w4 hf
  obtain ⟨g, nj, rfl, hnj, hmj, hrd, hb4⟩ := fresh_rd hf
  have hfl : [wsign, fxL s 4, fxL k 8].flatten = whB s k := by simp [whB]
  rw [hfl] at hnj hrd
  rw [whB_length] at hnj
  subst hnj
  have hB4 : Below w.heap.size w w4 := (hB2.alloc hB2.size _).trans (hb4.mono (by simp; have := hB2.size; omega))
  have HRD := Lib.hid hrd; clear hrd hf hb4 hfl
  go_wp2_with fail
  refine (seal_any _ _ 16 16 (whB s k) (whB_length s k) (Nat.le_refl _) (by decide) (by decide) HRD.out (whB_isB s k)).mono ?_
  rintro e w5 ⟨A5, n5, c5, rfl, hown5, hb5⟩
  obtain rfl : 20 = n5 := by rw [← hown5.len]; exact (whL_length s k).symm
  have HO5 := Lib.hid (show OwnB w5 w.heap.size A5 20 c5 (whL s k) from hown5.mono hB4.size)
  have hB5 := hB4.trans (hb5.mono hB4.size)
  clear hown5 hb5
  go_wp2
  rw [HR.out]
  exact ⟨A5, c5, rfl, HO5.out, hB5⟩

set_option maxHeartbeats 4000000 in
theorem wframe_ok (w : World) (pg cm : Int) (A : Option Addr) (n c : Nat) (hp : 1 ≤ pg ∧ pg ≤ 1048576) (hc : 0 ≤ cm ∧ cm ≤ 1048576) (hs : isSize (n : Int)) :
    Calls Try.prog 57 #[.agg #[.int .i64 pg, .int .i64 cm, .slice A n c]] w fun e w' => e = .returned (.bool true) ∧ Below w.heap.size w w' := by
  have HB := Lib.hid (fun o => (Below.refl w.heap.size w).alloc (Nat.le_refl _) o)
  have hsb : n ≤ 4096 := by unfold isSize at hs; omega
  have HD := Lib.hid (decide_eq_true hs)
  clear hs
  obtain ⟨p1, p2⟩ := hp
  obtain ⟨q1, q2⟩ := hc
  go_enter Try.func57, Try.ntmps57
  go_wp2_with fail
  refine (wsize_any _ (n : Int) (by unfold i64ok; omega)).mono ?_
  rintro e w1 ⟨rfl, rfl⟩
  simp only [HD.out]
  go_wp2
  go_ret
  exact ⟨rfl, HB.out _⟩
end
section
open Go.RowKit
set_option maxRecDepth 100000
set_option linter.unusedVariables false
set_option linter.unusedSimpArgs false
set_option linter.unnecessarySimpa false
set_option maxHeartbeats 4000000 in
theorem wlink_any (w : World) (p pg cm : Int) (A : Option Addr) (n c : Nat) (l : List Int) (hpg : 0 ≤ pg ∧ pg ≤ 4294967295) (hcm' : 0 ≤ cm ∧ cm ≤ 4294967295) (hn : l.length = n) (hnc : n ≤ c) (hcm : c ≤ maxLen) (hA : Rd w A l) (hB : IsB l) (h48 : n ≤ 4096) :
    Calls Try.prog 58 #[.int .u64 p, .agg #[.int .i64 pg, .int .i64 cm, .slice A n c]] w fun e w' => e = .returned (.int .u64 (lnk p pg cm l)) ∧ Below w.heap.size w w' := by
  have HN := Lib.hid hn; clear hn
  have HA := Lib.hid hA; clear hA
  have HB := Lib.hid hB; clear hB
  have HCM := Lib.hid hcm; clear hcm
  have HNC := Lib.hid hnc; clear hnc
  obtain ⟨W0, hW0⟩ : ∃ W, W = w.alloc (.cells #[.int .i64 pg, .int .i64 cm, .slice A n c] 53) := ⟨_, rfl⟩
  have hB0 : Below w.heap.size w W0 := by rw [hW0]; exact (Below.refl _ _).alloc (Nat.le_refl _) _
  have hz0 : W0.heap.size = w.heap.size + 1 := by rw [hW0]; simp
  have c0 : W0.cell? ⟨w.heap.size, 0, none⟩ = some (.int .i64 pg) := by rw [hW0]; simp [go_sem]
  have c1 : W0.cell? ⟨w.heap.size, 1, none⟩ = some (.int .i64 cm) := by rw [hW0]; simp [go_sem]
  have c2 : W0.cell? ⟨w.heap.size, 2, none⟩ = some (.slice A n c) := by rw [hW0]; simp [go_sem]
  have HW := Lib.hid hW0; clear hW0
  have hA0 := Lib.hid (HA.out.keep hB0)
  have K0 : ∀ W : World, Below W0.heap.size W0 W → W.cell? ⟨w.heap.size, 0, none⟩ = some (.int .i64 pg) := fun W hW => (hW.cell (by show w.heap.size < _; omega)).trans c0
  have K1 : ∀ W : World, Below W0.heap.size W0 W → W.cell? ⟨w.heap.size, 1, none⟩ = some (.int .i64 cm) := fun W hW => (hW.cell (by show w.heap.size < _; omega)).trans c1
  have K2 : ∀ W : World, Below W0.heap.size W0 W → W.cell? ⟨w.heap.size, 2, none⟩ = some (.slice A n c) := fun W hW => (hW.cell (by show w.heap.size < _; omega)).trans c2
  clear c0 c1 c2 hz0
  obtain ⟨g0, hg0⟩ : ∃ g, w.heap.size = g := ⟨_, rfl⟩
  have HG := Lib.hid hg0
  go_enter Try.func58, Try.ntmps58
  go_upto_region 1 with fail
  rw [← HW.out]
  rw [hg0] at K0 K1 K2
  clear HW hg0
  refine wp_region_held_drew (S := (fun W => Below W0.heap.size W0 W)) (by kernel_rfl) ?_ (fun hHeld => ?_)
  · exact (Below.refl _ W0).drew
  refine' wpAnyH_take (i := 0) (oi := _) (v := _) rfl (by kernel_rfl) (by kernel_rfl) (by kernel_rfl) (fun _ _ _ h => h) (Or.inl ⟨by rfl, ?hz1⟩) (by assumption) ?rezt1
  case hz1 => (intro w' hSw; (try dsimp only at hSw); go_simp; try with_reducible rfl)
  try simp only [Act.put, List.setIfInBounds_toArray, List.set_cons_zero, List.set_cons_succ, List.getElem_toArray, List.getElem_cons_zero, List.getElem_cons_succ]
  refine' wpAnyH_take (i := 1) (oi := _) (v := _) rfl (by kernel_rfl) (by kernel_rfl) (by kernel_rfl) (fun _ _ _ h => h) (Or.inl ⟨by rfl, ?hz2⟩) (by assumption) ?rezt2
  case hz2 => (intro w' hSw; (try dsimp only at hSw); go_simp; try with_reducible rfl)
  try simp only [Act.put, List.setIfInBounds_toArray, List.set_cons_zero, List.set_cons_succ, List.getElem_toArray, List.getElem_cons_zero, List.getElem_cons_succ]
  refine' wpAnyH_take (i := 2) (oi := _) (v := _) rfl (by kernel_rfl) (by kernel_rfl) (by kernel_rfl) (fun _ _ _ h => h) (Or.inl ⟨by rfl, ?hz3⟩) (by assumption) ?rezt3
  case hz3 => (intro w' hSw; (try dsimp only at hSw); go_simp; try with_reducible rfl)
  try simp only [Act.put, List.setIfInBounds_toArray, List.set_cons_zero, List.set_cons_succ, List.getElem_toArray, List.getElem_cons_zero, List.getElem_cons_succ]
  refine' wpAnyH_take (i := 4) (oi := _) (v := _) rfl (by kernel_rfl) (by kernel_rfl) (by kernel_rfl) (fun _ _ _ h => h) (Or.inl ⟨by rfl, ?hz4⟩) (by assumption) ?rezt4
  case hz4 => (intro w' hSw; (try dsimp only at hSw); go_simp; try with_reducible rfl)
  try simp only [Act.put, List.setIfInBounds_toArray, List.set_cons_zero, List.set_cons_succ, List.getElem_toArray, List.getElem_cons_zero, List.getElem_cons_succ]
  refine' wpAnyH_take (i := 5) (oi := _) (v := _) rfl (by kernel_rfl) (by kernel_rfl) (by kernel_rfl) (fun _ _ _ h => h) (Or.inl ⟨by rfl, ?hz5⟩) (by assumption) ?rezt5
  case hz5 => (intro w' hSw; (try dsimp only at hSw); go_simp; try with_reducible rfl)
  try simp only [Act.put, List.setIfInBounds_toArray, List.set_cons_zero, List.set_cons_succ, List.getElem_toArray, List.getElem_cons_zero, List.getElem_cons_succ]
  refine' wpAnyH_take (i := 7) (oi := _) (v := _) rfl (by kernel_rfl) (by kernel_rfl) (by kernel_rfl) (fun _ _ _ h => h) (Or.inl ⟨by rfl, ?hz6⟩) (by assumption) ?rezt6
  case hz6 => (intro w' hSw; (try dsimp only at hSw); go_simp; try with_reducible rfl)
  try simp only [Act.put, List.setIfInBounds_toArray, List.set_cons_zero, List.set_cons_succ, List.getElem_toArray, List.getElem_cons_zero, List.getElem_cons_succ]
  refine' wpAnyH_take (i := 8) (oi := _) (v := _) rfl (by kernel_rfl) (by kernel_rfl) (by kernel_rfl) (fun _ _ _ h => h) (Or.inl ⟨by rfl, ?hz7⟩) (by assumption) ?rezt7
  case hz7 => (intro w' hSw; (try dsimp only at hSw); go_simp; try with_reducible rfl)
  try simp only [Act.put, List.setIfInBounds_toArray, List.set_cons_zero, List.set_cons_succ, List.getElem_toArray, List.getElem_cons_zero, List.getElem_cons_succ]
  refine wpAnyH_ready (rs := [3]) (by kernel_rfl) (by simp) ?_
  refine AllReadyH.cons (o := _) rfl (fun K hK => ?_) AllReadyH.nil
  go_simp
  refine (wfour_any _ pg hpg.1 (by omega)).mono ?_
  rintro e w1 ⟨A1, c1, rfl, hown1, hb1⟩
  have hb01 : Below W0.heap.size W0 w1 := (Below.refl _ W0).drew.trans hb1
  have HO1 := Lib.hid hown1
  clear hown1 hb1
  refine hK.out _ _ ?_ (fun hHeld => ?_)
  · exact hb01
  clear hK K
  try simp only [Act.put, List.setIfInBounds_toArray, List.set_cons_zero, List.set_cons_succ, List.getElem_toArray, List.getElem_cons_zero, List.getElem_cons_succ]
  refine wpAnyH_ready (rs := [6]) (by kernel_rfl) (by simp) ?_
  refine AllReadyH.cons (o := _) rfl (fun K hK => ?_) AllReadyH.nil
  go_simp
  refine (wfour_any _ cm hcm'.1 (by omega)).mono ?_
  rintro e w2 ⟨A2, c2, rfl, hown2, hb2⟩
  have hb02 : Below W0.heap.size W0 w2 := hb01.trans (hb2.mono hb01.size)
  have HO2 := Lib.hid hown2
  have HO12 := Lib.hid (HO1.out.keep hb2)
  clear hown2 hb2 HO1
  refine hK.out _ _ ?_ (fun hHeld => ?_)
  · exact hb02
  clear hK K
  try simp only [Act.put, List.setIfInBounds_toArray, List.set_cons_zero, List.set_cons_succ, List.getElem_toArray, List.getElem_cons_zero, List.getElem_cons_succ]
  refine wpAnyH_ready (rs := [9]) (by kernel_rfl) (by simp) ?_
  refine AllReadyH.cons (o := _) rfl (fun K hK => ?_) AllReadyH.nil
  go_simp
  obtain ⟨w3, hw3⟩ : ∃ W, W = w2.alloc (.cells #[.slice A1 4 c1, .slice A2 4 c2, .slice A n c] 24) := ⟨_, rfl⟩
  have HRR := Lib.hid (show RdRows w3 (some ⟨w2.heap.size, 0, none⟩) [fxL pg 4, fxL cm 4, l] by rw [hw3]; exact rows3 _ _ (fxL_length _ _) HO12.out.cap.1 HO12.out.cap.2 HO12.out.rd (fxL_length _ _) HO2.out.cap.1 HO2.out.cap.2 HO2.out.rd HN.out HNC.out HCM.out (hA0.out.keep hb02))
  have hb03 : Below W0.heap.size W0 w3 := by rw [hw3]; exact hb02.alloc hb02.size _
  rw [← hw3]
  clear hw3
  refine hK.out _ _ ?_ (fun hHeld => ?_)
  · exact hb03
  clear hK K
  try simp only [Act.put, List.setIfInBounds_toArray, List.set_cons_zero, List.set_cons_succ, List.getElem_toArray, List.getElem_cons_zero, List.getElem_cons_succ]
  refine wpAnyH_ready (rs := [10]) (by kernel_rfl) (by simp) ?_
  refine AllReadyH.cons (o := _) rfl (fun K hK => ?_) AllReadyH.nil
  go_simp
  refine (join_any _ _ 3 3 [fxL pg 4, fxL cm 4, l] rfl (by decide) (Nat.le_refl _) (by decide) HRR.out (by simp [fxL_length, HN.out]; omega)).mono ?_
  rintro e w4 hf
  obtain ⟨g, nj, rfl, hnj, hmj, hrd, hb4⟩ := fresh_rd hf
  clear hf
  have HRD := Lib.hid hrd
  have HNJ := Lib.hid hnj
  have hb04 : Below W0.heap.size W0 w4 := hb03.trans (hb4.mono hb03.size)
  clear hrd hnj hb4
  refine hK.out _ _ ?_ (fun hHeld => ?_)
  · exact hb04
  clear hK K
  try simp only [Act.put, List.setIfInBounds_toArray, List.set_cons_zero, List.set_cons_succ, List.getElem_toArray, List.getElem_cons_zero, List.getElem_cons_succ]
  refine wpAnyH_ready (rs := [11]) (by kernel_rfl) (by simp) ?_
  refine AllReadyH.cons (o := _) rfl (fun K hK => ?_) AllReadyH.nil
  go_simp
  refine (next_any _ _ nj nj _ p HNJ.out (by unfold maxLen at hmj; omega) HRD.out (by
    simp only [List.flatten_cons, List.flatten_nil, List.append_nil]
    exact lnkB_isB HB.out)).mono ?_
  rintro e w5 ⟨rfl, rfl⟩
  refine hK.out _ _ ?_ (fun hHeld => ?_)
  · exact hb04
  clear hK K
  try simp only [Act.put, List.setIfInBounds_toArray, List.set_cons_zero, List.set_cons_succ, List.getElem_toArray, List.getElem_cons_zero, List.getElem_cons_succ]
  refine' wpAnyH_take (i := 12) (oi := _) (v := _) rfl (by kernel_rfl) (by kernel_rfl) (by kernel_rfl) (fun _ _ _ h => h) (Or.inl ⟨by rfl, ?hz8⟩) (by assumption) ?rezt8
  case hz8 => (intro w' hSw; (try dsimp only at hSw); go_simp; try with_reducible rfl)
  try simp only [Act.put, List.setIfInBounds_toArray, List.set_cons_zero, List.set_cons_succ, List.getElem_toArray, List.getElem_cons_zero, List.getElem_cons_succ]
  refine wpAnyH_done (by kernel_rfl) ?_ _
  have HE := Lib.hid (show nextI p [fxL pg 4, fxL cm 4, l].flatten = lnk p pg cm l by simp [lnk, lnkB])
  rw [HE.out]
  go_wp2
  go_ret
  exact ⟨rfl, hB0.trans (hb04.mono hB0.size)⟩

theorem fresh_rd2 {w : World} {l : List Int} {e : Ending} {w' : World} (h : FreshBack w l e w') : ∃ g n, e = .returned (.slice (some ⟨g, 0, none⟩) n n) ∧ l.length = n ∧ n ≤ maxLen ∧ Rd w' (some ⟨g, 0, none⟩) l ∧ Below w.heap.size w w' ∧ w.heap.size ≤ g := by
  obtain ⟨g, n, rfl, h1, h2, h3, h4, h5, h6, h7⟩ := h
  exact ⟨g, n, rfl, h1.symm, h4, .inr ⟨g, 0, rfl, fun i hi => by simpa using h5 i (by omega)⟩, h7, h2⟩

set_option maxHeartbeats 4000000 in
theorem wPut_ok (w : World) (p pg cm : Int) (A : Option Addr) (n c : Nat) (l : List Int) (hp : 0 ≤ p ∧ p ≤ 18446744073709551615) (hpg : 1 ≤ pg ∧ pg ≤ 1048576) (hcm' : 0 ≤ cm ∧ cm ≤ 1048576) (hn : l.length = n) (hnc : n ≤ c) (hcm : c ≤ maxLen) (hA : Rd w A l) (hB : IsB l) (hs : isSize (n : Int)) (R : Ending → World → Prop)
    (hR : R = fun e w' => ∃ A c, e = .returned (.tuple #[.slice A (n + 16) c, .int .u64 (lnk p pg cm l), .int .i64 0]) ∧ n + 16 ≤ c ∧ c ≤ maxLen ∧ Rd w' A (wEnt p pg cm l) ∧ (∀ a, A = some a → w.heap.size ≤ a.block) ∧ Below w.heap.size w w') :
    Calls Try.prog 36 #[.int .u64 p, .agg #[.int .i64 pg, .int .i64 cm, .slice A n c]] w R := by
  have HR := Lib.hid hR; clear hR
  have h48 : n ≤ 4096 := by unfold isSize at hs; omega
  have HN := Lib.hid hn; clear hn
  have HA := Lib.hid hA; clear hA
  have HB := Lib.hid hB; clear hB
  have HCM := Lib.hid hcm; clear hcm
  have HNC := Lib.hid hnc; clear hnc
  have HP := Lib.hid hp; clear hp
  have HS := Lib.hid hs; clear hs
  obtain ⟨W0, hW0⟩ : ∃ W, W = w.alloc (.cells #[.int .i64 pg, .int .i64 cm, .slice A n c] 53) := ⟨_, rfl⟩
  have hB0 : Below w.heap.size w W0 := by rw [hW0]; exact (Below.refl _ _).alloc (Nat.le_refl _) _
  have hz0 : W0.heap.size = w.heap.size + 1 := by rw [hW0]; simp
  have c0 : W0.cell? ⟨w.heap.size, 0, none⟩ = some (.int .i64 pg) := by rw [hW0]; simp [go_sem]
  have c1 : W0.cell? ⟨w.heap.size, 1, none⟩ = some (.int .i64 cm) := by rw [hW0]; simp [go_sem]
  have c2 : W0.cell? ⟨w.heap.size, 2, none⟩ = some (.slice A n c) := by rw [hW0]; simp [go_sem]
  have HF0 := Lib.hid (show FrAt W0 w.heap.size pg cm A n c from ⟨c0, c1, c2⟩)
  have HW := Lib.hid hW0; clear hW0
  have hA0 := Lib.hid (HA.out.keep hB0)
  have K0 : ∀ W : World, Below W0.heap.size W0 W → W.cell? ⟨w.heap.size, 0, none⟩ = some (.int .i64 pg) := fun W hW => (hW.cell (by show w.heap.size < _; omega)).trans c0
  have K1 : ∀ W : World, Below W0.heap.size W0 W → W.cell? ⟨w.heap.size, 1, none⟩ = some (.int .i64 cm) := fun W hW => (hW.cell (by show w.heap.size < _; omega)).trans c1
  have K2 : ∀ W : World, Below W0.heap.size W0 W → W.cell? ⟨w.heap.size, 2, none⟩ = some (.slice A n c) := fun W hW => (hW.cell (by show w.heap.size < _; omega)).trans c2
  clear c0 c1 c2 hz0
  obtain ⟨g0, hg0⟩ : ∃ g, w.heap.size = g := ⟨_, rfl⟩
  have HG := Lib.hid hg0
  go_enter Try.func36, Try.ntmps36
  go_upto_region 1 with fail
  rw [← HW.out]
  rw [hg0] at K0 K1 K2 HF0
  clear HW hg0
  go_step
  refine wp_load_fr rfl _ rfl g0 pg cm A n c rfl HF0.out ?_
  go_wp2_with fail
  refine (wframe_ok _ pg cm A n c hpg hcm' HS.out).mono ?_
  rintro e w1 ⟨rfl, hb1⟩
  have HF1 := Lib.hid (show FrAt w1 g0 pg cm A n c from ⟨K0 _ hb1, K1 _ hb1, K2 _ hb1⟩)
  go_upto_region 3 with fail
  iterate 4 go_step
  refine wp_load_fr rfl _ rfl g0 pg cm A n c rfl HF1.out ?_
  go_wp2_with fail
  refine (wlink_any _ p pg cm A n c l (by omega) (by omega) HN.out HNC.out HCM.out (hA0.out.keep hb1) HB.out h48).mono ?_
  rintro e w2 ⟨rfl, hb2⟩
  have hb02' : Below W0.heap.size W0 w2 := hb1.trans (hb2.mono hb1.size)
  obtain ⟨k, hk⟩ : ∃ k, lnk p pg cm l = k := ⟨_, rfl⟩
  have hk01 : 0 ≤ k ∧ k ≤ 18446744073709551615 := by rw [← hk]; exact lnk_bd HP.out _ _ _
  have HL := Lib.hid hk
  rw [hk]
  clear hk hb1 hb2
  go_upto_region 4 with fail
  refine wp_region_held_drew (S := (fun W => Below W0.heap.size W0 W)) (by kernel_rfl) ?_ (fun hHeld => ?_)
  · exact hb02'.drew
  refine' wpAnyH_take (i := 0) (oi := _) (v := _) rfl (by kernel_rfl) (by kernel_rfl) (by kernel_rfl) (fun _ _ _ h => h) (Or.inl ⟨by rfl, ?hz9⟩) (by assumption) ?rezt9
  case hz9 => (intro w' hSw; (try dsimp only at hSw); go_simp; try with_reducible rfl)
  try simp only [Act.put, List.setIfInBounds_toArray, List.set_cons_zero, List.set_cons_succ, List.getElem_toArray, List.getElem_cons_zero, List.getElem_cons_succ]
  refine' wpAnyH_take (i := 1) (oi := _) (v := _) rfl (by kernel_rfl) (by kernel_rfl) (by kernel_rfl) (fun _ _ _ h => h) (Or.inl ⟨by rfl, ?hz10⟩) (by assumption) ?rezt10
  case hz10 => (intro w' hSw; (try dsimp only at hSw); go_simp; try with_reducible rfl)
  try simp only [Act.put, List.setIfInBounds_toArray, List.set_cons_zero, List.set_cons_succ, List.getElem_toArray, List.getElem_cons_zero, List.getElem_cons_succ]
  refine' wpAnyH_take (i := 3) (oi := _) (v := _) rfl (by kernel_rfl) (by kernel_rfl) (by kernel_rfl) (fun _ _ _ h => h) (Or.inl ⟨by rfl, ?hz11⟩) (by assumption) ?rezt11
  case hz11 => (intro w' hSw; (try dsimp only at hSw); go_simp; try with_reducible rfl)
  try simp only [Act.put, List.setIfInBounds_toArray, List.set_cons_zero, List.set_cons_succ, List.getElem_toArray, List.getElem_cons_zero, List.getElem_cons_succ]
  refine' wpAnyH_take (i := 4) (oi := _) (v := _) rfl (by kernel_rfl) (by kernel_rfl) (by kernel_rfl) (fun _ _ _ h => h) (Or.inl ⟨by rfl, ?hz12⟩) (by assumption) ?rezt12
  case hz12 => (intro w' hSw; (try dsimp only at hSw); go_simp; try with_reducible rfl)
  try simp only [Act.put, List.setIfInBounds_toArray, List.set_cons_zero, List.set_cons_succ, List.getElem_toArray, List.getElem_cons_zero, List.getElem_cons_succ]
  refine' wpAnyH_take (i := 6) (oi := _) (v := _) rfl (by kernel_rfl) (by kernel_rfl) (by kernel_rfl) (fun _ _ _ h => h) (Or.inl ⟨by rfl, ?hz13⟩) (by assumption) ?rezt13
  case hz13 => (intro w' hSw; (try dsimp only at hSw); go_simp; try with_reducible rfl)
  try simp only [Act.put, List.setIfInBounds_toArray, List.set_cons_zero, List.set_cons_succ, List.getElem_toArray, List.getElem_cons_zero, List.getElem_cons_succ]
  refine' wpAnyH_take (i := 8) (oi := _) (v := _) rfl (by kernel_rfl) (by kernel_rfl) (by kernel_rfl) (fun _ _ _ h => h) (Or.inl ⟨by rfl, ?hz14⟩) (by assumption) ?rezt14
  case hz14 => (intro w' hSw; (try dsimp only at hSw); go_simp; try with_reducible rfl)
  try simp only [Act.put, List.setIfInBounds_toArray, List.set_cons_zero, List.set_cons_succ, List.getElem_toArray, List.getElem_cons_zero, List.getElem_cons_succ]
  refine' wpAnyH_take (i := 9) (oi := _) (v := _) rfl (by kernel_rfl) (by kernel_rfl) (by kernel_rfl) (fun _ _ _ h => h) (Or.inl ⟨by rfl, ?hz15⟩) (by assumption) ?rezt15
  case hz15 => (intro w' hSw; (try dsimp only at hSw); go_simp; try with_reducible rfl)
  try simp only [Act.put, List.setIfInBounds_toArray, List.set_cons_zero, List.set_cons_succ, List.getElem_toArray, List.getElem_cons_zero, List.getElem_cons_succ]
  refine' wpAnyH_take (i := 12) (oi := _) (v := _) rfl (by kernel_rfl) (by kernel_rfl) (by kernel_rfl) (fun _ _ _ h => h) (Or.inl ⟨by rfl, ?hz16⟩) (by assumption) ?rezt16
  case hz16 => (intro w' hSw; (try dsimp only at hSw); go_simp; try with_reducible rfl)
  try simp only [Act.put, List.setIfInBounds_toArray, List.set_cons_zero, List.set_cons_succ, List.getElem_toArray, List.getElem_cons_zero, List.getElem_cons_succ]
  refine wpAnyH_ready (rs := [2]) (by kernel_rfl) (by simp) ?_
  refine AllReadyH.cons (o := _) rfl (fun K hK => ?_) AllReadyH.nil
  go_simp
  refine (wfour_any _ pg (by omega) (by omega)).mono ?_
  rintro e w3 ⟨A1, c1, rfl, hown1, hb1⟩
  have hb01 : Below W0.heap.size W0 w3 := hb02'.drew.trans (hb1.mono hb02'.size)
  have HO1 := Lib.hid hown1
  clear hown1 hb1
  refine hK.out _ _ ?_ (fun hHeld => ?_)
  · exact hb01
  clear hK K
  try simp only [Act.put, List.setIfInBounds_toArray, List.set_cons_zero, List.set_cons_succ, List.getElem_toArray, List.getElem_cons_zero, List.getElem_cons_succ]
  refine wpAnyH_ready (rs := [5]) (by kernel_rfl) (by simp) ?_
  refine AllReadyH.cons (o := _) rfl (fun K hK => ?_) AllReadyH.nil
  go_simp
  refine (wfour_any _ cm (by omega) (by omega)).mono ?_
  rintro e w4 ⟨A2, c2, rfl, hown2, hb2⟩
  have hb02 : Below W0.heap.size W0 w4 := hb01.trans (hb2.mono hb01.size)
  have HO2 := Lib.hid hown2
  have HO12 := Lib.hid (HO1.out.keep hb2)
  clear hown2 hb2 HO1
  refine hK.out _ _ ?_ (fun hHeld => ?_)
  · exact hb02
  clear hK K
  try simp only [Act.put, List.setIfInBounds_toArray, List.set_cons_zero, List.set_cons_succ, List.getElem_toArray, List.getElem_cons_zero, List.getElem_cons_succ]
  refine wpAnyH_ready (rs := [7]) (by kernel_rfl) (by simp) ?_
  refine AllReadyH.cons (o := _) rfl (fun K hK => ?_) AllReadyH.nil
  go_simp
  refine (fixed_put _ k 8 hk01.1 hk01.2 (by decide) (by decide)).mono ?_
  rintro e w5 ⟨A3, c3, rfl, hown3, hb3⟩
  have hb03 : Below W0.heap.size W0 w5 := hb02.trans (hb3.mono hb02.size)
  have HO3 := Lib.hid hown3
  have HO13 := Lib.hid (HO12.out.keep hb3)
  have HO23 := Lib.hid (HO2.out.keep hb3)
  clear hown3 hb3 HO12 HO2
  refine hK.out _ _ ?_ (fun hHeld => ?_)
  · exact hb03
  clear hK K
  try simp only [Act.put, List.setIfInBounds_toArray, List.set_cons_zero, List.set_cons_succ, List.getElem_toArray, List.getElem_cons_zero, List.getElem_cons_succ]
  refine wpAnyH_ready (rs := [10]) (by kernel_rfl) (by simp) ?_
  refine AllReadyH.cons (o := _) rfl (fun K hK => ?_) AllReadyH.nil
  go_simp
  obtain ⟨w6, hw6⟩ : ∃ W, W = w5.alloc (.cells #[.slice A1 4 c1, .slice A2 4 c2, .slice A3 8 c3, .slice A n c] 24) := ⟨_, rfl⟩
  have HRR := Lib.hid (show RdRows w6 (some ⟨w5.heap.size, 0, none⟩) [fxL pg 4, fxL cm 4, fxL k 8, l] by rw [hw6]; exact rows4 _ _ (fxL_length _ _) HO13.out.cap.1 HO13.out.cap.2 HO13.out.rd (fxL_length _ _) HO23.out.cap.1 HO23.out.cap.2 HO23.out.rd (fxL_length _ _) HO3.out.cap.1 HO3.out.cap.2 HO3.out.rd HN.out HNC.out HCM.out (hA0.out.keep hb03))
  have hb04 : Below W0.heap.size W0 w6 := by rw [hw6]; exact hb03.alloc hb03.size _
  rw [← hw6]
  clear hw6
  refine hK.out _ _ ?_ (fun hHeld => ?_)
  · exact hb04
  clear hK K
  try simp only [Act.put, List.setIfInBounds_toArray, List.set_cons_zero, List.set_cons_succ, List.getElem_toArray, List.getElem_cons_zero, List.getElem_cons_succ]
  refine wpAnyH_ready (rs := [11]) (by kernel_rfl) (by simp) ?_
  refine AllReadyH.cons (o := _) rfl (fun K hK => ?_) AllReadyH.nil
  go_simp
  refine (join_any _ _ 4 4 [fxL pg 4, fxL cm 4, fxL k 8, l] rfl (by decide) (Nat.le_refl _) (by decide) HRR.out (by simp [fxL_length, HN.out]; omega)).mono ?_
  rintro e w7 hf
  obtain ⟨g, nj, rfl, hnj, hmj, hrd, hb4, hgg⟩ := fresh_rd2 hf
  clear hf
  have HGG := Lib.hid (Nat.le_trans (Nat.le_trans hB0.size hb04.size) hgg)
  clear hgg
  have HRD := Lib.hid hrd
  have HNJ := Lib.hid hnj
  have hb05 : Below W0.heap.size W0 w7 := hb04.trans (hb4.mono hb04.size)
  clear hrd hnj hb4
  refine hK.out _ _ ?_ (fun hHeld => ?_)
  · exact hb05
  clear hK K
  try simp only [Act.put, List.setIfInBounds_toArray, List.set_cons_zero, List.set_cons_succ, List.getElem_toArray, List.getElem_cons_zero, List.getElem_cons_succ]
  refine' wpAnyH_take (i := 13) (oi := _) (v := _) rfl (by kernel_rfl) (by kernel_rfl) (by kernel_rfl) (fun _ _ _ h => h) (Or.inl ⟨by rfl, ?hz17⟩) (by assumption) ?rezt17
  case hz17 => (intro w' hSw; (try dsimp only at hSw); go_simp; try with_reducible rfl)
  try simp only [Act.put, List.setIfInBounds_toArray, List.set_cons_zero, List.set_cons_succ, List.getElem_toArray, List.getElem_cons_zero, List.getElem_cons_succ]
  refine' wpAnyH_take (i := 14) (oi := _) (v := _) rfl (by kernel_rfl) (by kernel_rfl) (by kernel_rfl) (fun _ _ _ h => h) (Or.inl ⟨by rfl, ?hz18⟩) (by assumption) ?rezt18
  case hz18 => (intro w' hSw; (try dsimp only at hSw); go_simp; try with_reducible rfl)
  try simp only [Act.put, List.setIfInBounds_toArray, List.set_cons_zero, List.set_cons_succ, List.getElem_toArray, List.getElem_cons_zero, List.getElem_cons_succ]
  refine' wpAnyH_take (i := 15) (oi := _) (v := _) rfl (by kernel_rfl) (by kernel_rfl) (by kernel_rfl) (fun _ _ _ h => h) (Or.inl ⟨by rfl, ?hz19⟩) (by assumption) ?rezt19
  case hz19 => (intro w' hSw; (try dsimp only at hSw); go_simp; try with_reducible rfl)
  try simp only [Act.put, List.setIfInBounds_toArray, List.set_cons_zero, List.set_cons_succ, List.getElem_toArray, List.getElem_cons_zero, List.getElem_cons_succ]
  refine wpAnyH_done (by kernel_rfl) ?_ _
  have HE := Lib.hid (show [fxL pg 4, fxL cm 4, fxL k 8, l].flatten = wEnt p pg cm l by simp [wEnt, HL.out])
  have hnj : n + 16 = nj := by have := HNJ.out; rw [HE.out, wEnt_length, HN.out] at this; omega
  subst hnj
  have HBB := Lib.hid (hB0.trans (hb05.mono hB0.size))
  go_wp2
  rw [HR.out, ← HL.out]
  exact ⟨_, _, rfl, Nat.le_refl _, hmj, by rw [← HE.out]; exact HRD.out, (fun a ha => by injection ha with ha; subst ha; exact HGG.out), HBB.out⟩
end
section
open Go.RowKit
set_option maxRecDepth 100000
set_option linter.unusedVariables false
set_option linter.unusedSimpArgs false
set_option linter.unnecessarySimpa false
theorem heap_cellR {w : World} {g i : Nat} {cs : Array Value} {t : TypeId} {fr : Nat × Nat} (h : w.heap[g]? = some (.cells cs t fr)) : w.cell? ⟨g, i, none⟩ = cs[i]? := by simp [World.cell?, h]
/-- All but one block of old is as it was. -/
structure Mut (w : World) (gb : Nat) (w' : World) : Prop where
  os : w'.os = w.os
  tape : w'.tape = w.tape
  output : w'.output = w.output
  size : w.heap.size ≤ w'.heap.size
  block : ∀ k, k < w.heap.size → k ≠ gb → w'.heap[k]? = w.heap[k]?
theorem Mut.refl (w : World) (gb : Nat) : Mut w gb w := ⟨rfl, rfl, rfl, Nat.le_refl _, fun _ _ _ => rfl⟩
theorem Mut.trans {w w1 w2 : World} {gb : Nat} (h : Mut w gb w1) (k : Mut w1 gb w2) : Mut w gb w2 :=
  ⟨k.os.trans h.os, k.tape.trans h.tape, k.output.trans h.output, Nat.le_trans h.size k.size, fun i hi hg => (k.block i (Nat.lt_of_lt_of_le hi h.size) hg).trans (h.block i hi hg)⟩
theorem Mut.of {w w' : World} (h : Below w.heap.size w w') (gb : Nat) : Mut w gb w' := ⟨h.os, h.tape, h.output, h.size, fun k hk _ => h.block k hk⟩
theorem Mut.below {w0 w w' : World} {gb B : Nat} (h : Mut w gb w') (h0 : Below B w0 w) (hB : B ≤ gb) (hw : B ≤ w.heap.size) : Below B w0 w' :=
  h0.trans ⟨h.os, h.tape, h.output, h.size, fun k hk => h.block k (by omega) (by omega)⟩
theorem Mut.drew {w w' : World} {gb : Nat} (h : Mut w gb w') : Mut w gb w'.drew := ⟨h.os, h.tape, h.output, h.size, h.block⟩
theorem Mut.set (w : World) (gb i : Nat) (v : Value) : Mut w gb (w.setCell ⟨gb, i, none⟩ v) :=
  ⟨rfl, rfl, rfl, by simp [World.setCell], fun k _ hk => by unfold World.setCell; rw [Array.getElem?_modify, if_neg (by exact fun e => hk e.symm)]⟩
theorem Mut.cell {w w' : World} {gb : Nat} (h : Mut w gb w') {a : Addr} (ha : a.block < w.heap.size) (hne : a.block ≠ gb) : w'.cell? a = w.cell? a := by
  unfold World.cell?; rw [h.block _ ha hne]
theorem Rd.mut {w w' : World} {gb : Nat} {A : Option Addr} {l : List Int} (h : Rd w A l) (hm : Mut w gb w') (hne : ∀ a, A = some a → l ≠ [] → a.block ≠ gb) : Rd w' A l := by
  rcases h with rfl | ⟨b, off, rfl, hc⟩
  · exact .inl rfl
  · by_cases hl : l = []
    · exact .inl hl
    · refine .inr ⟨b, off, rfl, fun i hi => ?_⟩
      rw [hm.cell (a := ⟨b, off + i, none⟩) (World.block_lt_of_cell? w _ (hc i hi)) (show b ≠ gb from hne ⟨b, off, none⟩ rfl hl)]
      exact hc i hi
theorem OwnB.mut {w w' : World} {gb base n c : Nat} {A : Option Addr} {l : List Int} (h : OwnB w base A n c l) (hm : Mut w gb w') (hg : gb < base) : OwnB w' base A n c l := by
  refine ⟨h.1, ?_⟩
  rcases h.2 with hv | ⟨g, cap, cur, hv, hbg, hgg, rest⟩
  · exact .inl hv
  · exact .inr ⟨g, cap, cur, hv, hbg, (hm.block g (Array.getElem?_eq_some_iff.1 hgg).1 (by omega)).trans hgg, rest⟩
theorem OwnF.mut {w w' : World} {gb base m c : Nat} {A : Option Addr} {F : List Fr} (h : OwnF w base A m c F) (hm : Mut w gb w') (hg : gb < base) : OwnF w' base A m c F := by
  obtain ⟨h1, cs, hown, h4⟩ := h
  refine ⟨h1, cs, ⟨hown.1, ?_⟩, fun i hi => ?_⟩
  · rcases hown.2 with hv | ⟨g, cap, cur, hv, hbg, hgg, rest⟩
    · exact .inl hv
    · exact .inr ⟨g, cap, cur, hv, hbg, (hm.block g (Array.getElem?_eq_some_iff.1 hgg).1 (by omega)).trans hgg, rest⟩
  · obtain ⟨A, c, k1, k2, k3, k4⟩ := h4 i hi
    exact ⟨A, c, k1, k2, k3, k4.mut hm hg⟩

/-- A reader lies in a block. -/
structure RdrAt (w : World) (g : Nat) (A : Option Addr) (n c : Nat) (at_ s p k : Int) : Prop where
  head : w.heap[g]? = some (.cells #[.slice A n c, .int .i64 at_, .int .i64 s, .int .u64 p, .int .u64 k] 93 (0, 0))
section
variable {w w' : World} {g n c : Nat} {A : Option Addr} {at_ s p k : Int}
theorem RdrAt.c0 (h : RdrAt w g A n c at_ s p k) : w.cell? ⟨g, 0, none⟩ = some (.slice A n c) := by rw [heap_cellR h.head]; rfl
theorem RdrAt.c1 (h : RdrAt w g A n c at_ s p k) : w.cell? ⟨g, 1, none⟩ = some (.int .i64 at_) := by rw [heap_cellR h.head]; rfl
theorem RdrAt.c2 (h : RdrAt w g A n c at_ s p k) : w.cell? ⟨g, 2, none⟩ = some (.int .i64 s) := by rw [heap_cellR h.head]; rfl
theorem RdrAt.c3 (h : RdrAt w g A n c at_ s p k) : w.cell? ⟨g, 3, none⟩ = some (.int .u64 p) := by rw [heap_cellR h.head]; rfl
theorem RdrAt.c4 (h : RdrAt w g A n c at_ s p k) : w.cell? ⟨g, 4, none⟩ = some (.int .u64 k) := by rw [heap_cellR h.head]; rfl
theorem RdrAt.fr (h : RdrAt w g A n c at_ s p k) (i : Nat) : w.frozen? ⟨g, i, none⟩ = false := by simp [World.frozen?, h.head]
theorem RdrAt.lt (h : RdrAt w g A n c at_ s p k) : g < w.heap.size := (Array.getElem?_eq_some_iff.1 h.head).1
theorem RdrAt.keep (h : RdrAt w g A n c at_ s p k) (hb : Below w.heap.size w w') : RdrAt w' g A n c at_ s p k := ⟨(hb.block g h.lt).trans h.head⟩
theorem RdrAt.keepB {B : Nat} (h : RdrAt w g A n c at_ s p k) (hb : Below B w w') (hg : g < B) : RdrAt w' g A n c at_ s p k := ⟨(hb.block g hg).trans h.head⟩
theorem RdrAt.set1 (h : RdrAt w g A n c at_ s p k) (x : Int) : RdrAt (w.setCell ⟨g, 1, none⟩ (.int .i64 x)) g A n c x s p k := ⟨by rw [setCell_eq_setRow _ _ _ _ _ _ _ h.head]; exact setRow_heap _ _ _ _ _ _ h.head⟩
theorem RdrAt.set2 (h : RdrAt w g A n c at_ s p k) (x : Int) : RdrAt (w.setCell ⟨g, 2, none⟩ (.int .i64 x)) g A n c at_ x p k := ⟨by rw [setCell_eq_setRow _ _ _ _ _ _ _ h.head]; exact setRow_heap _ _ _ _ _ _ h.head⟩
theorem RdrAt.set3 (h : RdrAt w g A n c at_ s p k) (x : Int) : RdrAt (w.setCell ⟨g, 3, none⟩ (.int .u64 x)) g A n c at_ s x k := ⟨by rw [setCell_eq_setRow _ _ _ _ _ _ _ h.head]; exact setRow_heap _ _ _ _ _ _ h.head⟩
theorem RdrAt.set4 (h : RdrAt w g A n c at_ s p k) (x : Int) : RdrAt (w.setCell ⟨g, 4, none⟩ (.int .u64 x)) g A n c at_ s p x := ⟨by rw [setCell_eq_setRow _ _ _ _ _ _ _ h.head]; exact setRow_heap _ _ _ _ _ _ h.head⟩
theorem RdrAt.ne (h : RdrAt w g A n c at_ s p k) {B : Option Addr} {l : List Int} (hr : Rd w B l) : ∀ a, B = some a → l ≠ [] → a.block ≠ g := by
  intro a ha hl e
  rcases hr with h0 | ⟨b, off, hB, hc⟩
  · exact hl h0
  · subst hB
    injection ha with ha
    subst ha
    simp only at e
    subst e
    have := hc 0 (List.length_pos_iff.2 hl)
    rw [heap_cellR h.head] at this
    obtain ⟨j, hj⟩ : ∃ j, off + 0 = j := ⟨_, rfl⟩
    rw [hj] at this
    match j, this with
    | 0, t => simp at t
    | 1, t => simp at t
    | 2, t => simp at t
    | 3, t => simp at t
    | 4, t => simp at t
    | j + 5, t => simp at t
theorem RdrAt.rd (h : RdrAt w g A n c at_ s p k) {B : Option Addr} {l : List Int} (hr : Rd w B l) (hm : Mut w g w') : Rd w' B l := hr.mut hm (h.ne hr)
end
set_option maxHeartbeats 4000000 in
theorem wnumber_any (w : World) (g : Nat) (A : Option Addr) (n c : Nat) (at_ s p k : Int) (l : List Int) (hr : RdrAt w g A n c at_ s p k) (hn : l.length = n) (hnc : n ≤ c) (hcm : c ≤ maxLen) (hA : Rd w A l) (hB : IsB l) (i z : Int) (hi : -9223372036854775808 ≤ i ∧ i ≤ 9223372036854775807) :
    Calls Try.prog 65 #[.pointer (some ⟨g, 0, none⟩), .int .i64 i, .int .i64 z] w fun e w' => e = .returned (.int .u64 (readL l i z).1) ∧ w = w' := by
  have m0 := hr.c0
  have HC := Lib.hid (read_any w A n c l i z hn hnc hcm hA hB hi)
  clear hr hn hnc hcm hA hB
  go_enter Try.func65, Try.ntmps65
  go_wp2_with fail
  refine HC.out.mono ?_
  rintro e w1 ⟨rfl, rfl⟩
  go_wp2_with fail
  go_ret
  exact ⟨rfl, rfl⟩

theorem bequal_any (w : World) (A B : Option Addr) (n c m d : Nat) (l k : List Int) (hl : l.length = n) (hk : k.length = m) (hA : Rd w A l) (hB : Rd w B k) (il : IsB l) (ik : IsB k) :
    Calls Try.prog 66 #[.slice A n c, .slice B m d] w fun e w' => e = .returned (.bool (beqL l k)) ∧ w = w' := by
  have e1 := run_str w A n c l hl hA
  have e2 := run_str w B m d k hk hB
  have e3 := str_beq il ik
  clear hl hk hA hB il ik
  go_enter Try.func66, Try.ntmps66
  go_wp2
  go_ret
  exact ⟨rfl, rfl⟩
end
section
open Go.RowKit
set_option maxRecDepth 100000
set_option linter.unusedVariables false
set_option linter.unusedSimpArgs false
set_option linter.unnecessarySimpa false
theorem whL_form (s k : Int) (t : List Int) : ∃ r, whL s k ++ t = wsign ++ (fxL s 4 ++ (fxL k 8 ++ r)) := ⟨[sumI (whB s k) % 256, sumI (whB s k) / 256 % 256, sumI (whB s k) / 65536 % 256, sumI (whB s k) / 16777216] ++ t, by simp [whL, sealL, whB]⟩
theorem wh_four {s k : Int} (hs : 0 ≤ s ∧ s ≤ 4294967295) (t : List Int) : readL (whL s k ++ t) 4 4 = (s, 0) := by
  refine read_at _ 4 4 s (by rw [List.length_append, whL_length]; omega) (by decide) (by decide) ?_
  obtain ⟨r, hr⟩ := whL_form s k t
  rw [hr, List.drop_left' (by rfl : wsign.length = 4), List.take_left' (fxL_length _ _), beI_fx4 hs]
theorem wh_eight {s k : Int} (hk : 0 ≤ k ∧ k ≤ 18446744073709551615) (t : List Int) : readL (whL s k ++ t) 8 8 = (k, 0) := by
  refine read_at _ 8 8 k (by rw [List.length_append, whL_length]; omega) (by decide) (by decide) ?_
  obtain ⟨r, hr⟩ := whL_form s k t
  rw [hr, ← List.append_assoc, List.drop_left' (by simp [wsign, fxL_length]), List.take_left' (fxL_length _ _), beI_fx8 hk]

set_option maxHeartbeats 4000000 in
theorem whead_ok (w : World) (g : Nat) (A : Option Addr) (n c : Nat) (s k : Int) (l t : List Int) (hr : RdrAt w g A n c 0 0 0 0) (hl : l = whL s k ++ t) (hn : l.length = n) (hnc : n ≤ c) (hcm : c ≤ maxLen) (hA : Rd w A l) (hB : IsB l) (hs : isSize s) (hk : 0 ≤ k ∧ k ≤ 18446744073709551615) (R : Ending → World → Prop)
    (hR : R = fun e w' => e = .returned (.int .i64 0) ∧ RdrAt w' g A n c 20 s (nextI k (whL s k)) k ∧ Mut w g w') :
    Calls Try.prog 54 #[.pointer (some ⟨g, 0, none⟩)] w R := by
  have HR := Lib.hid hR; clear hR
  have hsb : 256 ≤ s ∧ s ≤ 4096 := by unfold isSize at hs; omega
  have h20 : 20 ≤ n := by rw [← hn, hl, List.length_append, whL_length]; omega
  have HS := Lib.hid hs; clear hs
  have HK := Lib.hid hk; clear hk
  have HRD := Lib.hid hr
  have H4 := Lib.hid (show readL l 4 4 = (s, 0) by rw [hl]; exact wh_four (by omega) t)
  have H8 := Lib.hid (show readL l 8 8 = (k, 0) by rw [hl]; exact wh_eight HK.out t)
  have HT := Lib.hid (show l.take 20 = whL s k by rw [hl]; exact List.take_left' (whL_length s k))
  have HN := Lib.hid hn
  have HA := Lib.hid hA
  have HB := Lib.hid hB
  have HCM := Lib.hid hcm
  have HNC := Lib.hid hnc
  have h20c : 20 ≤ c := by omega
  have hnc' : (n : Int) ≤ 9223372036854775807 := by unfold maxLen at hcm; omega
  have m0 := hr.c0
  clear hr hn hA hB hcm hnc hl
  obtain ⟨b, off, hAe, _, _⟩ := HA.out.at (by rw [HN.out]; omega)
  subst hAe
  have h20n : ¬ (n : Int) < 20 := by omega
  have hws : IntKind.i64.wrap s = s := IntWalk.i64_in _ (by omega)
  have hw20 : ∃ q, whL s k = q := ⟨_, rfl⟩
  go_enter Try.func54, Try.ntmps54
  go_upto_region 4 with fail
  go_wp2_with fail
  refine (wnumber_any _ g _ n c 0 0 0 0 l HRD.out HN.out HNC.out HCM.out HA.out HB.out 4 4 (by decide)).mono ?_
  rintro e w1 ⟨rfl, rfl⟩
  rw [H4.out]
  go_wp2_with fail
  refine (wnumber_any _ g _ n c 0 0 0 0 l HRD.out HN.out HNC.out HCM.out HA.out HB.out 8 8 (by decide)).mono ?_
  rintro e w1 ⟨rfl, rfl⟩
  rw [H8.out]
  have m2 := HRD.out.c2
  have m4 := HRD.out.c4
  have f2 := HRD.out.fr 2
  have f4 := HRD.out.fr 4
  go_upto_region 5 with fail
  obtain ⟨W1, hW1⟩ : ∃ W, W = (w.setCell ⟨g, 2, none⟩ (.int .i64 s)).setCell ⟨g, 4, none⟩ (.int .u64 k) := ⟨_, rfl⟩
  have HR1 := Lib.hid (show RdrAt W1 g (some ⟨b, off, none⟩) n c 0 s 0 k by rw [hW1]; exact (HRD.out.set2 s).set4 k)
  have HM1 := Lib.hid (show Mut w g W1 by rw [hW1]; exact (Mut.set _ _ _ _).trans (Mut.set _ _ _ _))
  rw [← hW1]
  have K2 : ∀ W : World, Below W1.heap.size W1 W → W.cell? ⟨g, 2, none⟩ = some (.int .i64 s) := fun W hW => (HR1.out.keep hW).c2
  have K4 : ∀ W : World, Below W1.heap.size W1 W → W.cell? ⟨g, 4, none⟩ = some (.int .u64 k) := fun W hW => (HR1.out.keep hW).c4
  clear hW1 m0 m2 m4 f2 f4
  refine wp_region_held_drew (S := (fun W => Below W1.heap.size W1 W)) (by kernel_rfl) ?_ (fun hHeld => ?_)
  · exact (Below.refl _ W1).drew
  refine' wpAnyH_take (i := 0) (oi := _) (v := _) rfl (by kernel_rfl) (by kernel_rfl) (by kernel_rfl) (fun _ _ _ h => h) (Or.inl ⟨by rfl, ?hz1⟩) (by assumption) ?rezt1
  case hz1 => (intro w' hSw; (try dsimp only at hSw); go_simp; try with_reducible rfl)
  try simp only [Act.put, List.setIfInBounds_toArray, List.set_cons_zero, List.set_cons_succ, List.getElem_toArray, List.getElem_cons_zero, List.getElem_cons_succ]
  refine' wpAnyH_take (i := 1) (oi := _) (v := _) rfl (by kernel_rfl) (by kernel_rfl) (by kernel_rfl) (fun _ _ _ h => h) (Or.inl ⟨by rfl, ?hz2⟩) (by assumption) ?rezt2
  case hz2 => (intro w' hSw; (try dsimp only at hSw); go_simp; try with_reducible rfl)
  try simp only [Act.put, List.setIfInBounds_toArray, List.set_cons_zero, List.set_cons_succ, List.getElem_toArray, List.getElem_cons_zero, List.getElem_cons_succ]
  refine' wpAnyH_take (i := 2) (oi := _) (v := _) rfl (by kernel_rfl) (by kernel_rfl) (by kernel_rfl) (fun _ _ _ h => h) (Or.inl ⟨by rfl, ?hz3⟩) (by assumption) ?rezt3
  case hz3 => (intro w' hSw; (try dsimp only at hSw); go_simp; try with_reducible rfl)
  try simp only [Act.put, List.setIfInBounds_toArray, List.set_cons_zero, List.set_cons_succ, List.getElem_toArray, List.getElem_cons_zero, List.getElem_cons_succ]
  refine' wpAnyH_take (i := 3) (oi := _) (v := _) rfl (by kernel_rfl) (by kernel_rfl) (by kernel_rfl) (fun _ _ _ h => h) (Or.inl ⟨by rfl, ?hz4⟩) (by assumption) ?rezt4
  case hz4 => (intro w' hSw; (try dsimp only at hSw); go_simp; try with_reducible rfl)
  try simp only [Act.put, List.setIfInBounds_toArray, List.set_cons_zero, List.set_cons_succ, List.getElem_toArray, List.getElem_cons_zero, List.getElem_cons_succ]
  refine' wpAnyH_take (i := 4) (oi := _) (v := _) rfl (by kernel_rfl) (by kernel_rfl) (by kernel_rfl) (fun _ _ _ h => h) (Or.inl ⟨by rfl, ?hz5⟩) (by assumption) ?rezt5
  case hz5 => (intro w' hSw; (try dsimp only at hSw); go_simp; try with_reducible rfl)
  try simp only [Act.put, List.setIfInBounds_toArray, List.set_cons_zero, List.set_cons_succ, List.getElem_toArray, List.getElem_cons_zero, List.getElem_cons_succ]
  refine' wpAnyH_take (i := 5) (oi := _) (v := _) rfl (by kernel_rfl) (by kernel_rfl) (by kernel_rfl) (fun _ _ _ h => h) (Or.inl ⟨by rfl, ?hz6⟩) (by assumption) ?rezt6
  case hz6 => (intro w' hSw; (try dsimp only at hSw); go_simp; try with_reducible rfl)
  try simp only [Act.put, List.setIfInBounds_toArray, List.set_cons_zero, List.set_cons_succ, List.getElem_toArray, List.getElem_cons_zero, List.getElem_cons_succ]
  refine' wpAnyH_take (i := 6) (oi := _) (v := _) rfl (by kernel_rfl) (by kernel_rfl) (by kernel_rfl) (fun _ _ _ h => h) (Or.inl ⟨by rfl, ?hz7⟩) (by assumption) ?rezt7
  case hz7 => (intro w' hSw; (try dsimp only at hSw); go_simp; try with_reducible rfl)
  try simp only [Act.put, List.setIfInBounds_toArray, List.set_cons_zero, List.set_cons_succ, List.getElem_toArray, List.getElem_cons_zero, List.getElem_cons_succ]
  refine' wpAnyH_take (i := 7) (oi := _) (v := _) rfl (by kernel_rfl) (by kernel_rfl) (by kernel_rfl) (fun _ _ _ h => h) (Or.inl ⟨by rfl, ?hz8⟩) (by assumption) ?rezt8
  case hz8 => (intro w' hSw; (try dsimp only at hSw); go_simp; try with_reducible rfl)
  try simp only [Act.put, List.setIfInBounds_toArray, List.set_cons_zero, List.set_cons_succ, List.getElem_toArray, List.getElem_cons_zero, List.getElem_cons_succ]
  refine wpAnyH_ready (rs := [8]) (by kernel_rfl) (by simp) ?_
  refine AllReadyH.cons (o := _) rfl (fun K hK => ?_) AllReadyH.nil
  go_simp
  refine (wStart_ok _ s k HS.out HK.out _ rfl).mono ?_
  rintro e w2 ⟨A2, c2, rfl, hown2, hb2⟩
  have hb12 : Below W1.heap.size W1 w2 := (Below.refl _ W1).drew.trans hb2
  have HO2 := Lib.hid hown2
  clear hown2 hb2
  refine hK.out _ _ ?_ (fun hHeld => ?_)
  · exact hb12
  clear hK K
  try simp only [Act.put, List.setIfInBounds_toArray, List.set_cons_zero, List.set_cons_succ, List.getElem_toArray, List.getElem_cons_zero, List.getElem_cons_succ]
  refine' wpAnyH_take (i := 9) (oi := _) (v := _) rfl (by kernel_rfl) (by kernel_rfl) (by kernel_rfl) (fun _ _ _ h => h) (Or.inl ⟨by rfl, ?hz9⟩) (by assumption) ?rezt9
  case hz9 => (intro w' hSw; (try dsimp only at hSw); go_simp; try with_reducible rfl)
  try simp only [Act.put, List.setIfInBounds_toArray, List.set_cons_zero, List.set_cons_succ, List.getElem_toArray, List.getElem_cons_zero, List.getElem_cons_succ]
  refine' wpAnyH_take (i := 10) (oi := _) (v := _) rfl (by kernel_rfl) (by kernel_rfl) (by kernel_rfl) (fun _ _ _ h => h) (Or.inl ⟨by rfl, ?hz10⟩) (by assumption) ?rezt10
  case hz10 => (intro w' hSw; (try dsimp only at hSw); go_simp; try with_reducible rfl)
  try simp only [Act.put, List.setIfInBounds_toArray, List.set_cons_zero, List.set_cons_succ, List.getElem_toArray, List.getElem_cons_zero, List.getElem_cons_succ]
  refine' wpAnyH_take (i := 11) (oi := _) (v := _) rfl (by kernel_rfl) (by kernel_rfl) (by kernel_rfl) (fun _ _ _ h => h) (Or.inl ⟨by rfl, ?hz11⟩) (by assumption) ?rezt11
  case hz11 => (intro w' hSw; (try dsimp only at hSw); go_simp; try with_reducible rfl)
  try simp only [Act.put, List.setIfInBounds_toArray, List.set_cons_zero, List.set_cons_succ, List.getElem_toArray, List.getElem_cons_zero, List.getElem_cons_succ]
  refine' wpAnyH_take (i := 12) (oi := _) (v := _) rfl (by kernel_rfl) (by kernel_rfl) (by kernel_rfl) (fun _ _ _ h => h) (Or.inl ⟨by rfl, ?hz12⟩) (by assumption) ?rezt12
  case hz12 => (intro w' hSw; (try dsimp only at hSw); go_simp; try with_reducible rfl)
  try simp only [Act.put, List.setIfInBounds_toArray, List.set_cons_zero, List.set_cons_succ, List.getElem_toArray, List.getElem_cons_zero, List.getElem_cons_succ]
  refine' wpAnyH_take (i := 13) (oi := _) (v := _) rfl (by kernel_rfl) (by kernel_rfl) (by kernel_rfl) (fun _ _ _ h => h) (Or.inl ⟨by rfl, ?hz13⟩) (by assumption) ?rezt13
  case hz13 => (intro w' hSw; (try dsimp only at hSw); go_simp; try with_reducible rfl)
  try simp only [Act.put, List.setIfInBounds_toArray, List.set_cons_zero, List.set_cons_succ, List.getElem_toArray, List.getElem_cons_zero, List.getElem_cons_succ]
  refine wpAnyH_done (by kernel_rfl) ?_ _
  have HR2 := Lib.hid (HR1.out.keep hb12)
  have HM2 := Lib.hid (HM1.out.trans (Mut.of hb12 g))
  have HA2 := Lib.hid (HRD.out.rd HA.out HM2.out)
  clear K2 K4 hb12
  have m1 := HR2.out.c1
  have m3 := HR2.out.c3
  have m4 := HR2.out.c4
  have f1 := HR2.out.fr 1
  have f3 := HR2.out.fr 3
  go_wp2_with fail
  refine (bequal_any _ A2 _ 20 c2 20 c (whL s k) (l.take 20) (whL_length s k) (by rw [List.length_take, HN.out]; omega) HO2.out.rd (rd_take HA2.out 20) (whL_isB s k) (isB_take HB.out 20)).mono ?_
  rintro e w3 ⟨rfl, rfl⟩
  rw [HT.out, beqL_self]
  have HX := Lib.hid (HR2.out.set1 20)
  have HXM := Lib.hid (HM2.out.trans (Mut.set w2 g 1 (.int .i64 20)))
  have HXA := Lib.hid (rd_take (HRD.out.rd HA.out HXM.out) 20)
  go_wp2_with fail
  refine (next_any _ _ 20 c (l.take 20) k (by rw [List.length_take, HN.out]; omega) (by decide) HXA.out (isB_take HB.out 20)).mono ?_
  rintro e w3 ⟨rfl, rfl⟩
  rw [HT.out]
  go_wp2
  rw [HR.out]
  exact ⟨rfl, HX.out.set3 _, HXM.out.trans (Mut.set _ _ _ _)⟩
end
section
open Go.RowKit
set_option maxRecDepth 100000
set_option linter.unusedVariables false
set_option linter.unusedSimpArgs false
set_option linter.unnecessarySimpa false
set_option maxHeartbeats 4000000 in
theorem bclone_any (w : World) (A : Option Addr) (n c : Nat) (l : List Int) (hl : l.length = n) (hn : n ≤ 1000000) (hA : Rd w A l) :
    Calls Try.prog 62 #[.slice A n c] w fun e w' => ∃ B d, e = .returned (.slice B n d) ∧ OwnB w' w.heap.size B n d l ∧ Below w.heap.size w w' := by
  have HL := Lib.hid hl
  have HA := Lib.hid hA
  clear hA
  have hq := Lib.run_eql_slice_nil (P := Try.prog) w 24 5 A n c 0 0 Try.underlying24
  cases A with
  | none =>
    obtain rfl : l = [] := by
      rcases HA.out with h | ⟨_, _, h, _⟩
      · exact h
      · cases h
    obtain rfl : n = 0 := by simpa using hl.symm
    clear hl
    go_enter Try.func62, Try.ntmps62
    go_wp2
    go_ret
    exact ⟨none, 0, rfl, OwnB.nil _ _, Below.refl _ _⟩
  | some a =>
    clear hl
    have hba : Below w.heap.size w (w.alloc (.cells #[] 5)) := (Below.refl _ _).alloc (Nat.le_refl _) _
    go_enter Try.func62, Try.ntmps62
    go_upto_region 3 with fail
    iterate 7 go_step
    refine wp_append rfl (.tmp 5) (.tmp 6) rfl w.heap.size _ _ _ [] rfl (OwnB.lit w #[] [] _ 0 rfl rfl (Nat.le_refl _) (by decide)) (some a) n c l rfl HL.out (HA.out.keep hba) (by omega) (by simp) ?_
    intro A2 c2 w2 hown2 _ hb2'
    simp only [List.nil_append, Nat.zero_add] at hown2 ⊢
    have hb2 : Below w.heap.size w w2 := hba.trans hb2'
    have HO := Lib.hid hown2
    clear hown2 hb2' hba
    go_wp2
    go_ret
    exact ⟨A2, c2, rfl, HO.out, hb2⟩

theorem run_loadFr (w : World) (g : Nat) (pg cm : Int) (A : Option Addr) (m c : Nat) (hc : FrAt w g pg cm A m c) : (loadVar 53 ⟨g, 0, none⟩).run Try.prog w = .ok (.agg #[.int .i64 pg, .int .i64 cm, .slice A m c]) w := by
  obtain ⟨k0, k1, k2⟩ := hc
  simp [go_sem, loadVar, k0, k1, k2]
theorem ret_fr {fn : Func} {R : Ending → World → Prop} {a : Act} {w : World} {q u : Tmp} {g : Nat} {pg cm : Int} {A : Option Addr} {m c : Nat} (hres : fn.results = #[.cell q 53, .tmp u]) (hp : a.tmps.getD q undef = .pointer (some ⟨g, 0, none⟩)) (hc : FrAt w g pg cm A m c) (hd : a.defers = [])
    (hR : R (.returned (.tuple #[.agg #[.int .i64 pg, .int .i64 cm, .slice A m c], a.tmps.getD u undef])) w) : bodyPost Try.prog fn R .ret a w := by
  refine bodyPost_ret (v := .tuple #[.agg #[.int .i64 pg, .int .i64 cm, .slice A m c], a.tmps.getD u undef]) ?_ hd hR
  rw [results_cell_tmp hres, hp]
  show ((loadVar 53 ⟨g, 0, none⟩).run Try.prog w).andThen _ = _
  rw [run_loadFr w g pg cm A m c hc]
  rfl
theorem FrAt.keepF {w w' : World} {g : Nat} {pg cm : Int} {A : Option Addr} {m c : Nat} (h : FrAt w g pg cm A m c) (hb : Below w.heap.size w w') : FrAt w' g pg cm A m c :=
  ⟨(hb.cell (World.block_lt_of_cell? _ _ h.1)).trans h.1, (hb.cell (World.block_lt_of_cell? _ _ h.2.1)).trans h.2.1, (hb.cell (World.block_lt_of_cell? _ _ h.2.2)).trans h.2.2⟩
theorem there_new3F (w : World) (a b d : Value) (t : TypeId) : (w.alloc (.cells #[a, b, d] t)).there w.heap.size 0 3 := fun j hj => by
  rcases (by omega : j = 0 ∨ j = 1 ∨ j = 2) with rfl | rfl | rfl <;> simp [go_sem]

set_option maxHeartbeats 4000000 in
theorem wframe_end (w : World) (g : Nat) (A : Option Addr) (n c a s : Nat) (p k : Int) (hr : RdrAt w g A n c a s p k) (hn : n ≤ 1000000000) (ha : a ≤ 1000000000) (hs : s ≤ 4096) (hend : n < a + 16 + s) (R : Ending → World → Prop)
    (hR : R = fun e w' => e = .returned (.tuple #[.agg #[.int .i64 0, .int .i64 0, .slice none 0 0], .bool false]) ∧ Below w.heap.size w w') :
    Calls Try.prog 55 #[.pointer (some ⟨g, 0, none⟩)] w R := by
  have HR := Lib.hid hR; clear hR
  obtain ⟨W0, hW0⟩ : ∃ W, W = w.alloc (.cells #[.int .i64 0, .int .i64 0, .slice none 0 0] 53) := ⟨_, rfl⟩
  have hb0 : Below w.heap.size w W0 := by rw [hW0]; exact (Below.refl _ _).alloc (Nat.le_refl _) _
  have HT := Lib.hid (show W0.there w.heap.size 0 3 by rw [hW0]; exact there_new3F w _ _ _ _)
  have hl0 : w.heap.size < W0.heap.size := by rw [hW0]; simp
  have HL := Lib.hid hl0
  have HD := Lib.hid (hr.keep hb0)
  have HW := Lib.hid hW0
  have K0 : ∀ W : World, Below W0.heap.size W0 W → W.cell? ⟨g, 0, none⟩ = some (.slice A n c) := fun W hW => (HD.out.keep hW).c0
  have K1 : ∀ W : World, Below W0.heap.size W0 W → W.cell? ⟨g, 1, none⟩ = some (.int .i64 (a : Int)) := fun W hW => (HD.out.keep hW).c1
  have K2 : ∀ W : World, Below W0.heap.size W0 W → W.cell? ⟨g, 2, none⟩ = some (.int .i64 (s : Int)) := fun W hW => (HD.out.keep hW).c2
  have hw1 : IntKind.i64.wrap ((a : Int) + 16) = (a : Int) + 16 := IntWalk.i64_in _ (by omega)
  have hw2 : IntKind.i64.wrap ((a : Int) + 16 + (s : Int)) = (a : Int) + 16 + (s : Int) := IntWalk.i64_in _ (by omega)
  have hgt : (n : Int) < (a : Int) + 16 + (s : Int) := by omega
  clear hW0 hr hl0 hn ha hs hend
  obtain ⟨g0, hg0⟩ : ∃ g, w.heap.size = g := ⟨_, rfl⟩
  have HG := Lib.hid hg0
  go_enter Try.func55, Try.ntmps55
  go_upto_region 1 with fail
  rw [← HW.out]
  rw [hg0] at HT HL
  clear HW hg0
  refine wp_region_held_drew (S := (fun W => Below W0.heap.size W0 W)) (by kernel_rfl) ?_ (fun hHeld => ?_)
  · exact (Below.refl _ W0).drew
  refine' wpAnyH_take (i := 0) (oi := _) (v := _) rfl (by kernel_rfl) (by kernel_rfl) (by kernel_rfl) (fun _ _ _ h => h) (Or.inl ⟨by rfl, ?hz1⟩) (by assumption) ?rezt1
  case hz1 => (intro w' hSw; (try dsimp only at hSw); go_simp; try with_reducible rfl)
  try simp only [Act.put, List.setIfInBounds_toArray, List.set_cons_zero, List.set_cons_succ, List.getElem_toArray, List.getElem_cons_zero, List.getElem_cons_succ]
  refine' wpAnyH_take (i := 1) (oi := _) (v := _) rfl (by kernel_rfl) (by kernel_rfl) (by kernel_rfl) (fun _ _ _ h => h) (Or.inl ⟨by rfl, ?hz2⟩) (by assumption) ?rezt2
  case hz2 => (intro w' hSw; (try dsimp only at hSw); go_simp; try with_reducible rfl)
  try simp only [Act.put, List.setIfInBounds_toArray, List.set_cons_zero, List.set_cons_succ, List.getElem_toArray, List.getElem_cons_zero, List.getElem_cons_succ]
  refine' wpAnyH_take (i := 2) (oi := _) (v := _) rfl (by kernel_rfl) (by kernel_rfl) (by kernel_rfl) (fun _ _ _ h => h) (Or.inl ⟨by rfl, ?hz3⟩) (by assumption) ?rezt3
  case hz3 => (intro w' hSw; (try dsimp only at hSw); go_simp; try with_reducible rfl)
  try simp only [Act.put, List.setIfInBounds_toArray, List.set_cons_zero, List.set_cons_succ, List.getElem_toArray, List.getElem_cons_zero, List.getElem_cons_succ]
  refine' wpAnyH_take (i := 3) (oi := _) (v := _) rfl (by kernel_rfl) (by kernel_rfl) (by kernel_rfl) (fun _ _ _ h => h) (Or.inl ⟨by rfl, ?hz4⟩) (by assumption) ?rezt4
  case hz4 => (intro w' hSw; (try dsimp only at hSw); go_simp; try with_reducible rfl)
  try simp only [Act.put, List.setIfInBounds_toArray, List.set_cons_zero, List.set_cons_succ, List.getElem_toArray, List.getElem_cons_zero, List.getElem_cons_succ]
  refine' wpAnyH_take (i := 4) (oi := _) (v := _) rfl (by kernel_rfl) (by kernel_rfl) (by kernel_rfl) (fun _ _ _ h => h) (Or.inl ⟨by rfl, ?hz5⟩) (by assumption) ?rezt5
  case hz5 => (intro w' hSw; (try dsimp only at hSw); go_simp; try with_reducible rfl)
  try simp only [Act.put, List.setIfInBounds_toArray, List.set_cons_zero, List.set_cons_succ, List.getElem_toArray, List.getElem_cons_zero, List.getElem_cons_succ]
  refine' wpAnyH_take (i := 5) (oi := _) (v := _) rfl (by kernel_rfl) (by kernel_rfl) (by kernel_rfl) (fun _ _ _ h => h) (Or.inl ⟨by rfl, ?hz6⟩) (by assumption) ?rezt6
  case hz6 => (intro w' hSw; (try dsimp only at hSw); go_simp; try with_reducible rfl)
  try simp only [Act.put, List.setIfInBounds_toArray, List.set_cons_zero, List.set_cons_succ, List.getElem_toArray, List.getElem_cons_zero, List.getElem_cons_succ]
  refine' wpAnyH_take (i := 6) (oi := _) (v := _) rfl (by kernel_rfl) (by kernel_rfl) (by kernel_rfl) (fun _ _ _ h => h) (Or.inl ⟨by rfl, ?hz7⟩) (by assumption) ?rezt7
  case hz7 => (intro w' hSw; (try dsimp only at hSw); go_simp; try with_reducible rfl)
  try simp only [Act.put, List.setIfInBounds_toArray, List.set_cons_zero, List.set_cons_succ, List.getElem_toArray, List.getElem_cons_zero, List.getElem_cons_succ]
  refine' wpAnyH_take (i := 7) (oi := _) (v := _) rfl (by kernel_rfl) (by kernel_rfl) (by kernel_rfl) (fun _ _ _ h => h) (Or.inl ⟨by rfl, ?hz8⟩) (by assumption) ?rezt8
  case hz8 => (intro w' hSw; (try dsimp only at hSw); go_simp; try with_reducible rfl)
  try simp only [Act.put, List.setIfInBounds_toArray, List.set_cons_zero, List.set_cons_succ, List.getElem_toArray, List.getElem_cons_zero, List.getElem_cons_succ]
  refine' wpAnyH_take (i := 8) (oi := _) (v := _) rfl (by kernel_rfl) (by kernel_rfl) (by kernel_rfl) (fun _ _ _ h => h) (Or.inl ⟨by rfl, ?hz9⟩) (by assumption) ?rezt9
  case hz9 => (intro w' hSw; (try dsimp only at hSw); go_simp; try with_reducible rfl)
  try simp only [Act.put, List.setIfInBounds_toArray, List.set_cons_zero, List.set_cons_succ, List.getElem_toArray, List.getElem_cons_zero, List.getElem_cons_succ]
  refine' wpAnyH_take (i := 9) (oi := _) (v := _) rfl (by kernel_rfl) (by kernel_rfl) (by kernel_rfl) (fun _ _ _ h => h) (Or.inl ⟨by rfl, ?hz10⟩) (by assumption) ?rezt10
  case hz10 => (intro w' hSw; (try dsimp only at hSw); go_simp; try with_reducible rfl)
  try simp only [Act.put, List.setIfInBounds_toArray, List.set_cons_zero, List.set_cons_succ, List.getElem_toArray, List.getElem_cons_zero, List.getElem_cons_succ]
  refine' wpAnyH_take (i := 10) (oi := _) (v := _) rfl (by kernel_rfl) (by kernel_rfl) (by kernel_rfl) (fun _ _ _ h => h) (Or.inl ⟨by rfl, ?hz11⟩) (by assumption) ?rezt11
  case hz11 => (intro w' hSw; (try dsimp only at hSw); go_simp; try with_reducible rfl)
  try simp only [Act.put, List.setIfInBounds_toArray, List.set_cons_zero, List.set_cons_succ, List.getElem_toArray, List.getElem_cons_zero, List.getElem_cons_succ]
  refine wpAnyH_done (by kernel_rfl) ?_ _
  have m0 := K0 _ hHeld
  have HB1 := Lib.hid hHeld
  clear K0 K1 K2 hHeld
  go_upto_region 3 with fail
  iterate 4 go_step
  obtain ⟨W1, hW1⟩ : ∃ W, W = W0.drew := ⟨_, rfl⟩
  rw [← hW1] at HB1 ⊢
  have HT1 := Lib.hid (there_keep HT.out HB1.out HL.out)
  refine wp_store_fr rfl _ _ rfl g0 0 0 none 0 0 rfl rfl HT1.out ?_
  have HF := Lib.hid (FrAt.stored HT1.out 0 0 none 0 0)
  have HG1 := Lib.hid (show g0 = w.heap.size from HG.out.symm)
  have HX := Lib.hid (show Below w.heap.size w (W1.setCells g0 0 (frC 0 0 none 0 0)) from below_setCells (hb0.trans (HB1.out.mono hb0.size)) (by rw [HG1.out]; exact Nat.le_refl _) _ _)
  obtain ⟨W2, hW2⟩ : ∃ W, W = W1.setCells g0 0 (frC 0 0 none 0 0) := ⟨_, rfl⟩
  rw [← hW2] at HF HX ⊢
  clear hW1 hW2
  go_wp2_with fail
  refine ret_fr rfl rfl HF.out rfl ?_
  rw [HR.out]
  exact ⟨rfl, HX.out⟩
end
end Go.Proofs.Ytlehpgokjppccaa
