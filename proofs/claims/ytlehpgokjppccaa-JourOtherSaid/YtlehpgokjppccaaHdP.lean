/- A file's head: its bytes. No program in sight. -/
import Derived.Test.YtlehpgokjppccaaHdA
import Derived.Test.YtlehpgokjppccaaNumA
import Derived.Test.YtlehpgokjppccaaPlain
namespace Go.Proofs.Ytlehpgokjppccaa
open Go.RowKit

def signL : List Int := [116, 111, 109, 101, 32, 102, 105, 108, 101, 32, 49, 0, 0, 0, 0, 0]
def Hd.list (h : Hd) : List Int := [h.s, h.p, h.f, h.m, h.c, h.v]
def fxs (l : List Int) : List Int := l.flatMap (fxL · 4)
def bodyL (h : Hd) : List Int := signL ++ fxs h.list ++ List.replicate 20 0
def headL (h : Hd) : List Int := bodyL h ++ fxL (sumI (bodyL h)) 4

theorem fxs_length (l : List Int) : (fxs l).length = 4 * l.length := by
  induction l with
  | nil => rfl
  | cons x l ih => simp only [fxs, List.flatMap_cons, List.length_append, fxL_length, List.length_cons] at ih ⊢; rw [ih]; omega
theorem fxs_isB (l : List Int) : IsB (fxs l) := by
  intro x hx
  obtain ⟨y, _, hy⟩ := List.mem_flatMap.1 hx
  exact fxL_isB y 4 x hy
theorem fxs_take {l : List Int} {j : Nat} (h : j < l.length) : fxs (l.take (j + 1)) = fxs (l.take j) ++ fxL (l.getD j 0) 4 := by
  rw [fxs, fxs, List.take_add_one, List.flatMap_append]
  congr 1
  rw [List.getElem?_eq_getElem h, List.getD_eq_getElem?_getD, List.getElem?_eq_getElem h]
  simp
theorem signL_isB : IsB signL := by unfold signL IsB; decide
theorem zeros_isB (n : Nat) : IsB (List.replicate n 0) := by intro x hx; rw [List.eq_of_mem_replicate hx]; omega
theorem isB_append {a b : List Int} (ha : IsB a) (hb : IsB b) : IsB (a ++ b) := by
  intro x hx
  rcases List.mem_append.1 hx with h | h
  · exact ha x h
  · exact hb x h
theorem bodyL_length (h : Hd) : (bodyL h).length = 60 := by simp [bodyL, fxs_length, signL, Hd.list]
theorem bodyL_isB (h : Hd) : IsB (bodyL h) := isB_append (isB_append signL_isB (fxs_isB _)) (zeros_isB _)
theorem headL_length (h : Hd) : (headL h).length = 64 := by simp [headL, bodyL_length, fxL_length]
theorem headL_isB (h : Hd) : IsB (headL h) := isB_append (bodyL_isB h) (fxL_isB _ _)
theorem Hd.good.fields {h : Hd} (hg : h.good) (j : Nat) : 0 ≤ h.list.getD j 0 ∧ h.list.getD j 0 ≤ 2147483647 := by
  obtain ⟨h1, h2, h3, h4⟩ := hg
  unfold isSize at h1
  rcases (by omega : j = 0 ∨ j = 1 ∨ j = 2 ∨ j = 3 ∨ j = 4 ∨ j = 5 ∨ 6 ≤ j) with rfl | rfl | rfl | rfl | rfl | rfl | hj
  · simp [Hd.list]; omega
  · simp [Hd.list]; omega
  · simp [Hd.list]; omega
  · simp [Hd.list]; omega
  · simp [Hd.list]; omega
  · simp [Hd.list]; omega
  · rw [List.getD_eq_getElem?_getD, List.getElem?_eq_none (by simpa [Hd.list] using hj)]; simp
end Go.Proofs.Ytlehpgokjppccaa
