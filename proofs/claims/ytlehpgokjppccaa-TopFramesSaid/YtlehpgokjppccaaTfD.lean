/- Several texts of this proof as one: HdA, HdP, HdC, HdD, HdE, HdF, HdG, HdZ, HdQ. Laid by merge.py. -/
import Derived.Test.YtlehpgokjppccaaTfA
import Derived.Test.YtlehpgokjppccaaTfB
import Derived.ArgAppend
import Derived.BigQuiet
import Derived.ChangeKeysEq
import Derived.Deep.DeepCutAuto
import Derived.Deep.MidRow
import Derived.Deep.QuietTactic
import Derived.Deep.RegionHeld3
import Derived.Deep.RegionLaw
import Derived.Handy
import Derived.Laws.ResultCell
import Derived.Lib.AppendStr
import Derived.Lib.Hide
import Derived.Lib.SmallJoins
import Derived.Maps.AppendAt
import Derived.Test.YtlehpgokjppccaaProg
import Derived.WalkKit
import Derived.WalkSpells
namespace Go.Proofs.Ytlehpgokjppccaa
section
open Go.RowKit
set_option maxRecDepth 100000
/-- A head. -/
structure Hd where
  (s p f m c v : Int)
def Hd.val (h : Hd) : Value := .agg #[.int .i64 h.s, .int .i64 h.p, .int .i64 h.f, .int .i64 h.m, .int .i64 h.c, .int .i64 h.v]
def i64ok (n : Int) : Prop := -9223372036854775808 ≤ n ∧ n ≤ 9223372036854775807
def Hd.ok (h : Hd) : Prop := i64ok h.s ∧ i64ok h.p ∧ i64ok h.f ∧ i64ok h.m ∧ i64ok h.c ∧ i64ok h.v
def isSize (n : Int) : Prop := n = 256 ∨ n = 512 ∨ n = 1024 ∨ n = 2048 ∨ n = 4096
instance (n : Int) : Decidable (isSize n) := by unfold isSize; infer_instance
/-- A head that may be. -/
def Hd.good (h : Hd) : Prop := isSize h.s ∧ (1 ≤ h.p ∧ h.p ≤ 1048576 ∧ h.s * h.p ≤ 16777216) ∧ (0 ≤ h.m ∧ h.m < h.p ∧ (h.m = 0 → h.f = 0) ∧ (0 < h.m → 2 ≤ h.f ∧ h.f ≤ h.p)) ∧ (0 ≤ h.c ∧ h.c ≤ 2147483647 ∧ 0 ≤ h.v ∧ h.v ≤ 2147483647)
instance (h : Hd) : Decidable h.good := by unfold Hd.good; infer_instance
def checkI (h : Hd) : Int := if h.good then 0 else 1

theorem size_all : ((List.range 3841).all fun i => (bits .and .i64 ((i + 256 : Nat) : Int) ((i + 255 : Nat) : Int) == 0) == decide (isSize ((i + 256 : Nat) : Int))) = true := by decide +kernel
theorem size_bits {n : Int} (h0 : 256 ≤ n) (h1 : n ≤ 4096) : (bits .and .i64 n (n - 1) == 0) = decide (isSize n) := by
  have h := List.all_eq_true.1 size_all (n.toNat - 256) (by simp; omega)
  have e1 : ((n.toNat - 256 + 256 : Nat) : Int) = n := by omega
  have e2 : ((n.toNat - 256 + 255 : Nat) : Int) = n - 1 := by omega
  rw [e1, e2] at h
  simpa using h

theorem hsize_any (w : World) (n : Int) (_hn : i64ok n) : Calls Try.prog 42 #[.int .i64 n] w fun e w' => e = .returned (.bool (decide (isSize n))) ∧ w = w' := by
  by_cases h0 : 256 ≤ n
  · by_cases h1 : n ≤ 4096
    · have hb := size_bits h0 h1
      have hw : IntKind.i64.wrap (n - 1) = n - 1 := IntWalk.i64_in _ (by omega)
      go_enter Try.func42, Try.ntmps42
      go_wp2
      go_ret
      exact ⟨rfl, rfl⟩
    · have hs : decide (isSize n) = false := decide_eq_false (by unfold isSize; omega)
      rw [hs]
      go_enter Try.func42, Try.ntmps42
      go_wp2
      go_ret
      exact ⟨rfl, rfl⟩
  · have hs : decide (isSize n) = false := decide_eq_false (by unfold isSize; omega)
    rw [hs]
    go_enter Try.func42, Try.ntmps42
    go_wp2
    go_ret
    exact ⟨rfl, rfl⟩

def CheckBack (w : World) (h : Hd) (e : Ending) (w' : World) : Prop := e = .returned (.int .i64 (checkI h)) ∧ Below w.heap.size w w'

theorem check_no {h : Hd} (hg : ¬ h.good) : checkI h = 1 := if_neg hg
theorem check_yes {h : Hd} (hg : h.good) : checkI h = 0 := if_pos hg

set_option maxHeartbeats 4000000 in
theorem check_any0 (w : World) (h : Hd) (hok : h.ok) (R : Int) (hR : R = checkI h) : Calls Try.prog 15 #[h.val] w fun e w' => e = .returned (.int .i64 R) ∧ Below w.heap.size w w' := by
  have HR := Lib.hid hR; clear hR
  obtain ⟨s, p, f, m, c, v⟩ := h
  obtain ⟨o1, o2, o3, o4, o5, o6⟩ := hok
  unfold i64ok at o1 o2 o3 o4 o5 o6
  simp only at o1 o2 o3 o4 o5 o6
  unfold Hd.val
  go_enter Try.func15, Try.ntmps15
  go_wp2_with fail
  refine (hsize_any _ s o1).mono ?_
  rintro e w1 ⟨rfl, rfl⟩
  by_cases hs : isSize s
  · simp only [decide_eq_true hs]
    have hsb : 256 ≤ s ∧ s ≤ 4096 := by unfold isSize at hs; omega
    by_cases hp1 : 1 ≤ p
    · by_cases hp2 : p ≤ 1048576
      · have h1 : s * 1 ≤ s * p := Int.mul_le_mul_of_nonneg_left hp1 (by omega)
        have h2 : s * p ≤ 4096 * p := Int.mul_le_mul_of_nonneg_right hsb.2 (by omega)
        have hmul : IntKind.i64.wrap (s * p) = s * p := IntWalk.i64_in _ (by omega)
        go_wp2
        all_goals go_ret
        all_goals refine ⟨?_, (Below.refl _ _).alloc (Nat.le_refl _) _⟩
        all_goals rw [HR.out]
        all_goals first
          | (rw [check_yes ⟨hs, ⟨by simp only; omega, by simp only; omega, by simp only; omega⟩, ⟨by simp only; omega, by simp only; omega, by simp only; omega, by simp only; omega⟩, ⟨by simp only; omega, by simp only; omega, by simp only; omega, by simp only; omega⟩⟩]; rfl)
          | (rw [check_no (by rintro ⟨_, a1, a2, a3⟩; simp only at a1 a2 a3; omega)]; rfl)
      · go_wp2
        go_ret
        exact ⟨by rw [HR.out, check_no (by rintro ⟨_, a1, a2, a3⟩; simp only at a1 a2 a3; omega)]; rfl, (Below.refl _ _).alloc (Nat.le_refl _) _⟩
    · go_wp2
      go_ret
      exact ⟨by rw [HR.out, check_no (by rintro ⟨_, a1, a2, a3⟩; simp only at a1 a2 a3; omega)]; rfl, (Below.refl _ _).alloc (Nat.le_refl _) _⟩
  · simp only [decide_eq_false hs]
    go_wp2
    go_ret
    exact ⟨by rw [HR.out, check_no (fun hg => hs hg.1)]; rfl, (Below.refl _ _).alloc (Nat.le_refl _) _⟩
theorem check_any (w : World) (h : Hd) (hok : h.ok) : Calls Try.prog 15 #[h.val] w (CheckBack w h) := check_any0 w h hok _ rfl
end
section
open Go.RowKit
def signL : List Int := [116, 111, 109, 101, 32, 102, 105, 108, 101, 32, 49, 0, 0, 0, 0, 0]
def Hd.list (h : Hd) : List Int := [h.s, h.p, h.f, h.m, h.c, h.v]
def fxs (l : List Int) : List Int := l.flatMap (fxL · 4)
def bodyL (h : Hd) : List Int := signL ++ fxs h.list ++ List.replicate 20 0
def headL (h : Hd) : List Int := bodyL h ++ fxL (sumI (bodyL h)) 4

theorem fxs_length (l : List Int) : (fxs l).length = 4 * l.length := by
  induction l with
  | nil => rfl
  | cons x l ih => simp only [fxs, List.flatMap_cons, List.length_append, fxL_length, List.length_cons] at ih ⊢; rw [ih]; omega
theorem fxs_isB (l : List Int) : IsB (fxs l) := by
  intro x hx
  obtain ⟨y, _, hy⟩ := List.mem_flatMap.1 hx
  exact fxL_isB y 4 x hy
theorem fxs_take {l : List Int} {j : Nat} (h : j < l.length) : fxs (l.take (j + 1)) = fxs (l.take j) ++ fxL (l.getD j 0) 4 := by
  rw [fxs, fxs, List.take_add_one, List.flatMap_append]
  congr 1
  rw [List.getElem?_eq_getElem h, List.getD_eq_getElem?_getD, List.getElem?_eq_getElem h]
  simp
theorem signL_isB : IsB signL := by unfold signL IsB; decide
theorem zeros_isB (n : Nat) : IsB (List.replicate n 0) := by intro x hx; rw [List.eq_of_mem_replicate hx]; omega
theorem isB_append {a b : List Int} (ha : IsB a) (hb : IsB b) : IsB (a ++ b) := by
  intro x hx
  rcases List.mem_append.1 hx with h | h
  · exact ha x h
  · exact hb x h
theorem bodyL_length (h : Hd) : (bodyL h).length = 60 := by simp [bodyL, fxs_length, signL, Hd.list]
theorem bodyL_isB (h : Hd) : IsB (bodyL h) := isB_append (isB_append signL_isB (fxs_isB _)) (zeros_isB _)
theorem headL_length (h : Hd) : (headL h).length = 64 := by simp [headL, bodyL_length, fxL_length]
theorem headL_isB (h : Hd) : IsB (headL h) := isB_append (bodyL_isB h) (fxL_isB _ _)
theorem Hd.good.fields {h : Hd} (hg : h.good) (j : Nat) : 0 ≤ h.list.getD j 0 ∧ h.list.getD j 0 ≤ 2147483647 := by
  obtain ⟨h1, h2, h3, h4⟩ := hg
  unfold isSize at h1
  rcases (by omega : j = 0 ∨ j = 1 ∨ j = 2 ∨ j = 3 ∨ j = 4 ∨ j = 5 ∨ 6 ≤ j) with rfl | rfl | rfl | rfl | rfl | rfl | hj
  · simp [Hd.list]; omega
  · simp [Hd.list]; omega
  · simp [Hd.list]; omega
  · simp [Hd.list]; omega
  · simp [Hd.list]; omega
  · simp [Hd.list]; omega
  · rw [List.getD_eq_getElem?_getD, List.getElem?_eq_none (by simpa [Hd.list] using hj)]; simp
end
section
open Go.RowKit
set_option maxRecDepth 100000
def HbRel (w : World) (base g : Nat) (l : List Int) (b k : Value) (wr : World) : Prop :=
  ∃ (j : Nat) (A : Option Addr) (c : Nat), j ≤ 6 ∧ k = .int .i64 j ∧ b = .slice A (16 + 4 * j) c ∧ Ext wr base A (16 + 4 * j) c (signL ++ fxs (l.take j)) ∧ (1 ≤ j → OwnB wr base A (16 + 4 * j) c (signL ++ fxs (l.take j))) ∧ (∀ i, i < 6 → wr.cell? ⟨g, i, none⟩ = some (.int .i64 (l.getD i 0))) ∧ base ≤ wr.heap.size ∧ Below w.heap.size w wr

set_option maxHeartbeats 8000000 in
theorem hbytes_any (w : World) (h : Hd) (hg : h.good) : Calls Try.prog 40 #[h.val] w (BytesBack w (headL h)) := by
  have kc := fun (w : World) (C : Array Value) (n c g : Nat) (hg : g = w.heap.size) => Joins.run_convert_bytes_const_at (P := Try.prog) w 24 5 C n c g hg Try.underlying24 Try.underlying5
  have HG := Lib.hid hg; clear hg
  obtain ⟨R, hR⟩ : ∃ R, R = headL h := ⟨_, rfl⟩
  rw [← hR]
  have HR := Lib.hid hR; clear hR
  unfold Hd.val
  go_enter Try.func40, Try.ntmps40
  go_wp2_with fail
  go_loopw [3, 22] (fun b k wr => HbRel w (w.heap.size + 3) (w.heap.size + 2) h.list b k wr) (fun _ k _ => 6 - (intOf k).toNat)
  case atStart =>
    refine ⟨0, some ⟨w.heap.size + 1, 0, none⟩, 16, by omega, rfl, rfl, .inr ⟨rfl, by omega, by simp [maxLen], rfl, ?_⟩, fun h0 => absurd h0 (by omega), ?_, by simp, ?_⟩
    · refine .inr ⟨_, 0, rfl, fun i hi => ?_⟩
      simp [fxs, signL] at hi
      rcases (by omega : i = 0 ∨ i = 1 ∨ i = 2 ∨ i = 3 ∨ i = 4 ∨ i = 5 ∨ i = 6 ∨ i = 7 ∨ i = 8 ∨ i = 9 ∨ i = 10 ∨ i = 11 ∨ i = 12 ∨ i = 13 ∨ i = 14 ∨ i = 15) with rfl | rfl | rfl | rfl | rfl | rfl | rfl | rfl | rfl | rfl | rfl | rfl | rfl | rfl | rfl | rfl <;> simp [go_sem, bt, signL, Joins.cell_alloc_mark_at]
    · intro i hi
      rcases (by omega : i = 0 ∨ i = 1 ∨ i = 2 ∨ i = 3 ∨ i = 4 ∨ i = 5) with rfl | rfl | rfl | rfl | rfl | rfl <;> simp [go_sem, Hd.list]
    · repeat' first | exact Below.refl _ _ | refine Below.alloc ?_ (by simp <;> omega) _
  case round =>
    obtain ⟨j, A, c, hj, rfl, rfl, hext, hown0, hcl, hbs, hb⟩ := hrel
    by_cases hlt : j < 6
    · have hx := hcl j hlt
      obtain ⟨x0, x1⟩ := HG.out.fields j
      have htk := fxs_take (l := h.list) (j := j) (by simpa [Hd.list] using hlt)
      obtain ⟨x, hxe⟩ : ∃ x, x = h.list.getD j 0 := ⟨_, rfl⟩
      rw [← hxe] at hx x0 x1 htk
      have hw : IntKind.u64.wrap x = x := IntWalk.u64_in _ (by omega)
      have hw2 : IntKind.i64.wrap ((j : Int) + 1) = (j : Int) + 1 := IntWalk.i64_in _ (by omega)
      have HT := Lib.hid htk; clear htk hxe
      have HC := Lib.hid hcl; clear hcl
      have HE := Lib.hid hext; clear hext hown0
      go_wp2_with fail
      refine (fixed_any _ x 4 x0 (by omega)).mono ?_
      rintro e w2 ⟨A2, n2, c2, rfl, hown, hb2⟩
      rw [show (4 : Int) = (4 : Nat) from rfl, fixed_nat x 4 (by decide) (by decide)] at hown
      have hn2 : 4 = n2 := by rw [← hown.len, fxL_length]
      subst hn2
      have HO := Lib.hid hown; clear hown
      have HE2 := Lib.hid (HE.out.keep hb2)
      have hsz := hb2.size
      go_wp2_with (at_builtin; refine wp_append_ext rfl (.tmp 26) (.tmp 29) rfl (w.heap.size + 3) A (16 + 4 * j) c _ rfl HE2.out A2 4 c2 (fxL x 4) rfl HO.out.len (by omega) HO.out.rd (by omega) (by omega) ?_; intro A3 c3 w3 hown3 hb3)
      go_roundw
      case rel =>
        rw [List.append_assoc, ← HT.out] at hown3
        refine ⟨j + 1, A3, c3, by omega, by go_num, by rw [show 16 + 4 * (j + 1) = 16 + 4 * j + 4 by omega], .inl hown3, fun _ => hown3, fun i hi => ?_, Nat.le_trans hbs (Nat.le_trans hsz (Nat.le_trans ?_ hb3.size)), ?_⟩
        · rw [hb3.cell (by show w.heap.size + 2 < w.heap.size + 3; omega), hb2.cell (by show w.heap.size + 2 < _; omega)]
          exact HC.out i hi
        · exact Nat.le_refl _
        · exact hb.trans ((hb2.mono hb.size).trans (hb3.mono (by omega)))
      case measure => simp [intOf]; omega
    · obtain rfl : j = 6 := by omega
      have hown := hown0 (by omega)
      clear hown0 hext hcl
      have e40 : 16 + 4 * 6 = 40 := rfl
      rw [e40] at hown
      have HO := Lib.hid hown; clear hown
      simp only [e40]
      go_wp2_with (at_builtin; refine wp_append_make rfl (.tmp 32) (.tmp 35) rfl (w.heap.size + 3) A 40 c _ rfl HO.out 20 rfl (by decide) (by decide) hbs ?_; intro A1 c1 w1 hown1 hb1)
      have ebody : signL ++ fxs (List.take 6 h.list) ++ List.replicate 20 0 = bodyL h := rfl
      rw [ebody] at hown1
      have HO1 := Lib.hid (show OwnB w1 (w.heap.size + 3) A1 60 c1 (bodyL h) from hown1); clear hown1 ebody
      have hcap := HO1.out.cap
      have hsz1 := hb1.size
      refine (sum1_any _ w1.heap.size A1 60 c1 (bodyL h) (bodyL_length h) (by simp [go_sem]) hcap.1 hcap.2 (HO1.out.rd.keep ((Below.refl _ _).alloc (Nat.le_refl _) _)) (bodyL_isB h)).mono ?_
      rintro e w2 ⟨rfl, hb2⟩
      have hb12 : Below w1.heap.size w1 w2 := ((Below.refl _ _).alloc (Nat.le_refl _) _).trans (hb2.mono (by simp))
      clear hb2
      have HO2 := Lib.hid (HO1.out.keep hb12)
      have hsz2 := hb12.size
      obtain ⟨y0, y1⟩ := sumI_bd (bodyL h)
      have hhead : R = bodyL h ++ fxL (sumI (bodyL h)) 4 := HR.out
      obtain ⟨y, hy⟩ : ∃ y, y = sumI (bodyL h) := ⟨_, rfl⟩
      rw [← hy] at y0 y1 hhead ⊢
      have HH := Lib.hid hhead; clear hhead hy
      have hwy : IntKind.u64.wrap y = y := IntWalk.u64_in _ (by omega)
      go_wp2_with fail
      refine (fixed_any _ y 4 y0 (by omega)).mono ?_
      rintro e w3 ⟨A2, n2, c2, rfl, hown, hb3⟩
      rw [show (4 : Int) = (4 : Nat) from rfl, fixed_nat y 4 (by decide) (by decide)] at hown
      have hn2 : 4 = n2 := by rw [← hown.len, fxL_length]
      subst hn2
      have HO3 := Lib.hid hown; clear hown
      have HO4 := Lib.hid (HO2.out.keep hb3)
      have hsz3 := hb3.size
      go_wp2_with (at_builtin; refine wp_append rfl (.tmp 37) (.tmp 42) rfl (w.heap.size + 3) A1 60 c1 _ rfl HO4.out A2 4 c2 (fxL y 4) rfl HO3.out.len HO3.out.rd (by omega) (by omega) ?_; intro A4 c4 w4 hown4 _ hb4)
      rw [← HH.out] at hown4
      have HO5 := Lib.hid hown4; clear hown4
      go_ret
      exact ⟨A4, 60 + 4, c4, rfl, HO5.out.mono (by omega), hb.trans ((hb1.mono (by omega)).trans ((hb12.mono (by omega)).trans ((hb3.mono (by omega)).trans (hb4.mono (by omega)))))⟩
end
section
open Go.RowKit
set_option maxRecDepth 100000
def encL (h : Hd) : List Int := if h.good then headL h else []
theorem encL_yes {h : Hd} (hg : h.good) : encL h = headL h := if_pos hg
theorem encL_no {h : Hd} (hg : ¬ h.good) : encL h = [] := if_neg hg
def EncBack (w : World) (h : Hd) (e : Ending) (w' : World) : Prop :=
  ∃ A n c, e = .returned (.tuple #[.slice A n c, .int .i64 (checkI h)]) ∧ OwnB w' w.heap.size A n c (encL h) ∧ Below w.heap.size w w'

set_option maxHeartbeats 2000000 in
theorem encode_any (w : World) (h : Hd) (hok : h.ok) : Calls Try.prog 13 #[h.val] w (EncBack w h) := by
  have HOK := Lib.hid hok; clear hok
  have hout : ∀ (R : Ending → World → Prop), R = EncBack w h → Calls Try.prog 13 #[h.val] w R := by
    intro R hR
    have HR := Lib.hid hR; clear hR
    by_cases hg : h.good
    · have HG := Lib.hid hg
      have hc := check_yes hg
      clear hg
      have HC := Lib.hid hc; clear hc
      unfold Hd.val
      go_enter Try.func13, Try.ntmps13
      go_wp2_with fail
      refine (check_any _ h HOK.out).mono ?_
      rintro e w1 ⟨rfl, hb1⟩
      have hB1 : Below w.heap.size w w1 := ((Below.refl _ _).alloc (Nat.le_refl _) _).trans (hb1.mono (by simp))
      have hS1 := hB1.size
      have hcell : ∀ i, i < 6 → w1.cell? ⟨w.heap.size, i, none⟩ = some (.int .i64 (h.list.getD i 0)) := by
        intro i hi
        rw [hb1.cell (by simp)]
        rcases (by omega : i = 0 ∨ i = 1 ∨ i = 2 ∨ i = 3 ∨ i = 4 ∨ i = 5) with rfl | rfl | rfl | rfl | rfl | rfl <;> simp [go_sem, Hd.list]
      clear hb1
      have k0 := hcell 0 (by omega)
      have k1 := hcell 1 (by omega)
      have k2 := hcell 2 (by omega)
      have k3 := hcell 3 (by omega)
      have k4 := hcell 4 (by omega)
      have k5 := hcell 5 (by omega)
      simp only [Hd.list, List.getD_cons_zero, List.getD_cons_succ] at k0 k1 k2 k3 k4 k5
      clear hcell
      simp only [HC.out]
      go_wp2_with fail
      refine (hbytes_any _ h HG.out).mono ?_
      rintro e w2 ⟨A, n, c, rfl, hown, hb2⟩
      have HO := Lib.hid hown; clear hown
      have hB2 := hB1.trans (hb2.mono hS1)
      go_wp2
      rw [HR.out]
      exact ⟨A, n, c, by rw [HC.out]; rfl, by rw [encL_yes HG.out]; exact HO.out.mono hS1, hB2⟩
    · have HG := Lib.hid hg
      have hc := check_no hg
      clear hg
      have HC := Lib.hid hc; clear hc
      unfold Hd.val
      go_enter Try.func13, Try.ntmps13
      go_wp2_with fail
      refine (check_any _ h HOK.out).mono ?_
      rintro e w1 ⟨rfl, hb1⟩
      have hB1 : Below w.heap.size w w1 := ((Below.refl _ _).alloc (Nat.le_refl _) _).trans (hb1.mono (by simp))
      simp only [HC.out]
      go_wp2
      rw [HR.out]
      exact ⟨none, 0, 0, by rw [HC.out]; rfl, by rw [encL_no HG.out]; exact OwnB.nil _ _, hB1⟩
  exact hout _ rfl
end
section
open Go.RowKit
set_option maxRecDepth 100000
def ints (l : List Int) : Array Value := (l.map (Value.int .i64)).toArray
end
section
open Go.RowKit
set_option maxRecDepth 100000
def fourI (b : List Int) (p : Nat) : Int := beI ((b.drop p).take 4)
def readH (b : List Int) : Hd := ⟨fourI b 16, fourI b 20, fourI b 24, fourI b 28, fourI b 32, fourI b 36⟩
def zeroH : Hd := ⟨0, 0, 0, 0, 0, 0⟩
def decOk (b : List Int) : Prop := (readH b).good ∧ headL (readH b) = b.take 64
instance (b : List Int) : Decidable (decOk b) := by unfold decOk; infer_instance
def decL (b : List Int) : Hd × Int := if b.length < 64 then (zeroH, 6) else if b.take 16 ≠ signL then (zeroH, 8) else if decOk b then (readH b, 0) else (zeroH, 14)

theorem four_bd {b : List Int} (hB : IsB b) (p : Nat) : 0 ≤ fourI b p ∧ fourI b p ≤ 4294967295 := by
  have h := beI_lt (l := (b.drop p).take 4) (fun x hx => hB x (List.mem_of_mem_drop (List.mem_of_mem_take hx))) 4 (by simp; omega)
  have e : (256 : Int) ^ 4 = 4294967296 := by decide
  unfold fourI; rw [e] at h; omega
theorem readH_ok {b : List Int} (hB : IsB b) : (readH b).ok := by
  have h1 := four_bd hB 16
  have h2 := four_bd hB 20
  have h3 := four_bd hB 24
  have h4 := four_bd hB 28
  have h5 := four_bd hB 32
  have h6 := four_bd hB 36
  unfold Hd.ok i64ok readH
  simp only
  omega

theorem hfield_any (w : World) (p : Addr) (A : Option Addr) (n c : Nat) (l : List Int) (i : Nat) (hi : i ≤ 5) (hp : w.cell? p = some (.slice A n c)) (hn : l.length = n) (hnc : n ≤ c) (hcm : c ≤ maxLen) (hA : Rd w A l) (hB : IsB l) (h64 : 64 ≤ n) :
    Calls Try.prog 43 #[.int .i64 (i : Int), .pointer (some p)] w fun e w' => e = .returned (.int .i64 (fourI l (16 + 4 * i))) ∧ w = w' := by
  have HN := Lib.hid hn; clear hn
  have HA := Lib.hid hA; clear hA
  have HB := Lib.hid hB; clear hB
  have w1 : IntKind.i64.wrap (4 * (i : Int)) = 4 * (i : Int) := IntWalk.i64_in _ (by omega)
  have w2 : IntKind.i64.wrap (16 + 4 * (i : Int)) = 16 + 4 * (i : Int) := IntWalk.i64_in _ (by omega)
  go_enter Try.func43, Try.ntmps43
  go_wp2_with fail
  refine (read_any _ A n c l (16 + 4 * (i : Int)) 4 HN.out hnc hcm HA.out HB.out (by omega)).mono ?_
  rintro e w3 ⟨rfl, rfl⟩
  have hr := readL_ok (l := l) (p := 16 + 4 * i) (k := 4) (by decide) (by decide) (by rw [HN.out]; omega)
  rw [show ((16 + 4 * i : Nat) : Int) = 16 + 4 * (i : Int) by omega, show ((4 : Nat) : Int) = 4 from rfl] at hr
  simp only [hr]
  clear hr
  obtain ⟨f0, f1⟩ := four_bd HB.out (16 + 4 * i)
  have hf : beI ((l.drop (16 + 4 * i)).take 4) = fourI l (16 + 4 * i) := rfl
  simp only [hf]
  have wf : IntKind.i64.wrap (fourI l (16 + 4 * i)) = fourI l (16 + 4 * i) := IntWalk.i64_in _ (by omega)
  go_wp2
  go_ret
  exact ⟨rfl, rfl⟩
end
section
open Go.RowKit
set_option maxRecDepth 100000
def DecBack (w : World) (l : List Int) (e : Ending) (w' : World) : Prop := e = .returned (.tuple #[(decL l).1.val, .int .i64 (decL l).2]) ∧ Below w.heap.size w w'

/-- A head lies in a block. -/
def HdAt (w : World) (g : Nat) (h : Hd) : Prop := ∀ i, i < 6 → w.cell? ⟨g, i, none⟩ = some (.int .i64 (h.list.getD i 0))
theorem HdAt.of {w : World} {g : Nat} {h : Hd} (k0 : w.cell? ⟨g, 0, none⟩ = some (.int .i64 h.s)) (k1 : w.cell? ⟨g, 1, none⟩ = some (.int .i64 h.p)) (k2 : w.cell? ⟨g, 2, none⟩ = some (.int .i64 h.f)) (k3 : w.cell? ⟨g, 3, none⟩ = some (.int .i64 h.m)) (k4 : w.cell? ⟨g, 4, none⟩ = some (.int .i64 h.c)) (k5 : w.cell? ⟨g, 5, none⟩ = some (.int .i64 h.v)) : HdAt w g h := by
  intro i hi
  rcases (by omega : i = 0 ∨ i = 1 ∨ i = 2 ∨ i = 3 ∨ i = 4 ∨ i = 5) with rfl | rfl | rfl | rfl | rfl | rfl
  · exact k0
  · exact k1
  · exact k2
  · exact k3
  · exact k4
  · exact k5
theorem run_loadHd (w : World) (g : Nat) (h : Hd) (hc : HdAt w g h) : (loadVar 23 ⟨g, 0, none⟩).run Try.prog w = .ok h.val w := by
  have k0 := hc 0 (by omega)
  have k1 := hc 1 (by omega)
  have k2 := hc 2 (by omega)
  have k3 := hc 3 (by omega)
  have k4 := hc 4 (by omega)
  have k5 := hc 5 (by omega)
  simp only [Hd.list, List.getD_cons_zero, List.getD_cons_succ] at k0 k1 k2 k3 k4 k5
  simp [go_sem, loadVar, k0, k1, k2, k3, k4, k5, Hd.val]
theorem ret_hd {fn : Func} {R : Ending → World → Prop} {a : Act} {w : World} {p u : Tmp} {g : Nat} {h : Hd} (hres : fn.results = #[.cell p 23, .tmp u]) (hp : a.tmps.getD p undef = .pointer (some ⟨g, 0, none⟩)) (hc : HdAt w g h) (hd : a.defers = [])
    (hR : R (.returned (.tuple #[h.val, a.tmps.getD u undef])) w) : bodyPost Try.prog fn R .ret a w := by
  refine bodyPost_ret (v := .tuple #[h.val, a.tmps.getD u undef]) ?_ hd hR
  rw [results_cell_tmp hres, hp]
  show ((loadVar 23 ⟨g, 0, none⟩).run Try.prog w).andThen _ = _
  rw [run_loadHd w g h hc]
  rfl

theorem sign_const : (strOfNums signL).toList = ([116, 111, 109, 101, 32, 102, 105, 108, 101, 32, 49, 0, 0, 0, 0, 0] : List UInt8) := by decide +kernel
theorem isB_take {l : List Int} (h : IsB l) (n : Nat) : IsB (l.take n) := fun x hx => h x (List.mem_of_mem_take hx)
theorem rd_take {w : World} {A : Option Addr} {l : List Int} (h : Rd w A l) (n : Nat) : Rd w A (l.take n) := by
  rcases h with h | ⟨b, off, rfl, hc⟩
  · exact .inl (by simp [h])
  · refine .inr ⟨b, off, rfl, fun i hi => ?_⟩
    simp at hi
    rw [hc i (by omega)]
    simp [bt, show i < n by omega]

end
section
open Go.RowKit
set_option maxRecDepth 100000
/-- A result's cells, still zero. -/
def HdZ (w : World) (g : Nat) : Prop := ∀ i, i < 6 → w.cell? ⟨g, i, none⟩ = some (.int .i64 0) ∧ w.frozen? ⟨g, i, none⟩ = false
theorem HdZ.keep {w w' : World} {g : Nat} (h : HdZ w g) (hb : Below w.heap.size w w') (hg : g < w.heap.size) : HdZ w' g := fun i hi => ⟨(hb.cell hg).trans (h i hi).1, (hb.frozen hg).trans (h i hi).2⟩
theorem HdZ.all {w : World} {g : Nat} (h : HdZ w g) : w.cell? ⟨g, 0, none⟩ = some (.int .i64 0) ∧ w.cell? ⟨g, 1, none⟩ = some (.int .i64 0) ∧ w.cell? ⟨g, 2, none⟩ = some (.int .i64 0) ∧ w.cell? ⟨g, 3, none⟩ = some (.int .i64 0) ∧ w.cell? ⟨g, 4, none⟩ = some (.int .i64 0) ∧ w.cell? ⟨g, 5, none⟩ = some (.int .i64 0) ∧
    w.frozen? ⟨g, 0, none⟩ = false ∧ w.frozen? ⟨g, 1, none⟩ = false ∧ w.frozen? ⟨g, 2, none⟩ = false ∧ w.frozen? ⟨g, 3, none⟩ = false ∧ w.frozen? ⟨g, 4, none⟩ = false ∧ w.frozen? ⟨g, 5, none⟩ = false :=
  ⟨(h 0 (by decide)).1, (h 1 (by decide)).1, (h 2 (by decide)).1, (h 3 (by decide)).1, (h 4 (by decide)).1, (h 5 (by decide)).1, (h 0 (by decide)).2, (h 1 (by decide)).2, (h 2 (by decide)).2, (h 3 (by decide)).2, (h 4 (by decide)).2, (h 5 (by decide)).2⟩
theorem HdZ.there {w : World} {g : Nat} (h : HdZ w g) : w.there g 0 6 := fun j hj => by
  obtain ⟨h1, h2⟩ := h j hj
  rw [Nat.zero_add]
  exact ⟨by rw [h1]; rfl, h2⟩
theorem HdZ.stored {w : World} {g : Nat} (h : w.there g 0 6) (z : Hd) : HdAt (w.setCells g 0 [.int .i64 z.s, .int .i64 z.p, .int .i64 z.f, .int .i64 z.m, .int .i64 z.c, .int .i64 z.v]) g z := by
  intro i hi
  have hr := World.rangeAt_setCells_same w g 0 [.int .i64 z.s, .int .i64 z.p, .int .i64 z.f, .int .i64 z.m, .int .i64 z.c, .int .i64 z.v] h
  have := hr i (.int .i64 (z.list.getD i 0)) (by rcases (by omega : i = 0 ∨ i = 1 ∨ i = 2 ∨ i = 3 ∨ i = 4 ∨ i = 5) with rfl | rfl | rfl | rfl | rfl | rfl <;> rfl)
  rwa [Nat.zero_add] at this
theorem below_setCells {B : Nat} {w w' : World} (h : Below B w w') {b : Nat} (hb : B ≤ b) : ∀ (o : Nat) (vs : List Value), Below B w (w'.setCells b o vs)
  | _, [] => h
  | o, _ :: r => below_setCells (h.setCell hb _) hb (o + 1) r
theorem size_head : (Try.prog.info? 23).map (·.size) = some 6 := by kernel_rfl


def Hd.cells (z : Hd) : List Value := [.int .i64 z.s, .int .i64 z.p, .int .i64 z.f, .int .i64 z.m, .int .i64 z.c, .int .i64 z.v]
theorem wp_store_hd {ops : Array Oper} {rest : List Oper} {op : Oper} {a : Act} {w : World} {Q : Exit → Act → World → Prop} (hgd : op.guard = none) (x y : Operand) (ho : op.op = .store 23 x y) (g : Nat) (z : Hd)
    (hx : a.eval x = .pointer (some ⟨g, 0, none⟩)) (hy : a.eval y = z.val) (ht : w.there g 0 6) (h : wpList Try.prog ops Q rest (a.put op.dst undef) (w.setCells g 0 z.cells)) : wpList Try.prog ops Q (op :: rest) a w :=
  wpList_store_mid hgd 23 x y ho g 0 z.cells.toArray hx hy ht size_head (all_oneCell_toArray (by intro v hv; simp [Hd.cells] at hv; rcases hv with rfl | rfl | rfl | rfl | rfl | rfl <;> rfl)) h
theorem wp_load_hd {ops : Array Oper} {rest : List Oper} {op : Oper} {a : Act} {w : World} {Q : Exit → Act → World → Prop} (hgd : op.guard = none) (x : Operand) (ho : op.op = .load 23 x) (g : Nat) (z : Hd)
    (hx : a.eval x = .pointer (some ⟨g, 0, none⟩)) (hc : HdAt w g z) (h : wpList Try.prog ops Q rest (a.put op.dst z.val) w) : wpList Try.prog ops Q (op :: rest) a w :=
  wpList_load_mid hgd 23 x ho g 0 hx z.cells _ (fun j v hv => by
    rw [Nat.zero_add]
    have hj : j < 6 := (List.getElem?_eq_some_iff.1 hv).1
    rw [hc j hj]
    rcases (by omega : j = 0 ∨ j = 1 ∨ j = 2 ∨ j = 3 ∨ j = 4 ∨ j = 5) with rfl | rfl | rfl | rfl | rfl | rfl <;> exact hv) Try.underlying23 rfl size_head h
theorem HdZ.at {w : World} {g : Nat} (h : w.there g 0 6) (z : Hd) : HdAt (w.setCells g 0 z.cells) g z := HdZ.stored h z
end
section
open Go.RowKit
theorem mod_splitq (a : Int) (k : Nat) : a % 256 ^ (k + 1) = (a / 256 ^ k % 256) * 256 ^ k + a % 256 ^ k := by
  have hp : (0 : Int) < 256 ^ k := Int.pow_pos (by decide)
  have h1 := Int.mul_ediv_add_emod a (256 ^ k)
  have h2 := Int.mul_ediv_add_emod (a / 256 ^ k) 256
  have h3 := Int.emod_nonneg a (Int.ne_of_gt hp)
  have h4 := Int.emod_lt_of_pos a hp
  have h5 : 0 ≤ a / 256 ^ k % 256 := Int.emod_nonneg _ (by decide)
  have h6 : a / 256 ^ k % 256 < 256 := Int.emod_lt_of_pos _ (by decide)
  generalize hq : a / 256 ^ k / 256 = q at *
  generalize hr : a / 256 ^ k % 256 = r at *
  generalize hs : a % 256 ^ k = s at *
  generalize ha : a / 256 ^ k = d at *
  generalize hP : (256 : Int) ^ k = p at *
  have e : a = (r * p + s) + p * 256 * q := by rw [← h1, ← h2, Int.mul_add]; rw [Int.mul_assoc p 256 q, Int.mul_comm r p]; omega
  rw [Int.pow_succ, hP, e, Int.add_mul_emod_self_left]
  refine Int.emod_eq_of_lt ?_ ?_
  · have := Int.mul_nonneg h5 (Int.le_of_lt hp); omega
  · have h7 : r * p ≤ 255 * p := Int.mul_le_mul_of_nonneg_right (by omega) (Int.le_of_lt hp)
    omega

theorem foldl_fxq (n : Int) (k : Nat) : ∀ a : Int, (fxL n k).foldl (fun a x => a * 256 + x) a = a * 256 ^ k + n % 256 ^ k := by
  induction k with
  | zero => intro a; simp [fxL, Int.emod_one]
  | succ k ih =>
    intro a
    rw [fxL, List.foldl_cons, ih, mod_splitq, Int.add_mul, Int.pow_succ, Int.mul_assoc, Int.mul_comm 256, Int.add_assoc]
theorem beI_fxq (n : Int) (k : Nat) : beI (fxL n k) = n % 256 ^ k := by rw [beI, foldl_fxq]; omega
theorem beI_fx4 {n : Int} (h : 0 ≤ n ∧ n ≤ 4294967295) : beI (fxL n 4) = n := by
  have e : (256 : Int) ^ 4 = 4294967296 := by decide
  rw [beI_fxq, e]; omega
theorem four_skip (x y : List Int) (p : Nat) (h : x.length ≤ p) : fourI (x ++ y) p = fourI y (p - x.length) := by
  rw [fourI, fourI, List.drop_append, List.drop_eq_nil_of_le h, List.nil_append]
theorem four_here (n : Int) (y : List Int) (h : 0 ≤ n ∧ n ≤ 4294967295) : fourI (fxL n 4 ++ y) 0 = n := by
  rw [fourI, List.drop_zero, List.take_left' (fxL_length n 4), beI_fx4 h]
theorem head_split (h : Hd) (more : List Int) : headL h ++ more = signL ++ (fxL h.s 4 ++ (fxL h.p 4 ++ (fxL h.f 4 ++ (fxL h.m 4 ++ (fxL h.c 4 ++ (fxL h.v 4 ++ (List.replicate 20 0 ++ (fxL (sumI (bodyL h)) 4 ++ more)))))))) := by
  simp only [headL, bodyL, fxs, Hd.list, List.flatMap_cons, List.flatMap_nil, List.append_assoc, List.append_nil]
theorem signL_len : signL.length = 16 := rfl
theorem head_read {h : Hd} (hg : h.good) (more : List Int) : readH (headL h ++ more) = h := by
  have b0 := hg.fields 0
  have b1 := hg.fields 1
  have b2 := hg.fields 2
  have b3 := hg.fields 3
  have b4 := hg.fields 4
  have b5 := hg.fields 5
  simp only [Hd.list, List.getD_cons_zero, List.getD_cons_succ] at b0 b1 b2 b3 b4 b5
  rw [head_split]
  obtain ⟨s, p, f, m, c, v⟩ := h
  simp only at b0 b1 b2 b3 b4 b5 ⊢
  unfold readH
  congr 1
  · rw [four_skip _ _ _ (by simp [signL]), signL_len, four_here _ _ (by omega)]
  · rw [four_skip _ _ _ (by simp [signL]), signL_len, four_skip _ _ _ (by simp [fxL_length]), fxL_length, four_here _ _ (by omega)]
  · rw [four_skip _ _ _ (by simp [signL]), signL_len, four_skip _ _ _ (by simp [fxL_length]), fxL_length, four_skip _ _ _ (by simp [fxL_length]), fxL_length, four_here _ _ (by omega)]
  · rw [four_skip _ _ _ (by simp [signL]), signL_len, four_skip _ _ _ (by simp [fxL_length]), fxL_length, four_skip _ _ _ (by simp [fxL_length]), fxL_length, four_skip _ _ _ (by simp [fxL_length]), fxL_length, four_here _ _ (by omega)]
  · rw [four_skip _ _ _ (by simp [signL]), signL_len, four_skip _ _ _ (by simp [fxL_length]), fxL_length, four_skip _ _ _ (by simp [fxL_length]), fxL_length, four_skip _ _ _ (by simp [fxL_length]), fxL_length, four_skip _ _ _ (by simp [fxL_length]), fxL_length, four_here _ _ (by omega)]
  · rw [four_skip _ _ _ (by simp [signL]), signL_len, four_skip _ _ _ (by simp [fxL_length]), fxL_length, four_skip _ _ _ (by simp [fxL_length]), fxL_length, four_skip _ _ _ (by simp [fxL_length]), fxL_length, four_skip _ _ _ (by simp [fxL_length]), fxL_length, four_skip _ _ _ (by simp [fxL_length]), fxL_length, four_here _ _ (by omega)]
theorem head_sign (h : Hd) (more : List Int) : (headL h ++ more).take 16 = signL := by
  rw [head_split]; exact List.take_left' rfl
theorem decL_back {h : Hd} (hg : h.good) (more : List Int) : decL (headL h ++ more) = (h, 0) := by
  have hr := head_read hg more
  have ht : (headL h ++ more).take 64 = headL h := List.take_left' (headL_length h)
  rw [decL, if_neg (by simp [headL_length]), if_neg (by simp [head_sign]), if_pos ⟨by rw [hr]; exact hg, by rw [hr, ht]⟩, hr]
end
end Go.Proofs.Ytlehpgokjppccaa
