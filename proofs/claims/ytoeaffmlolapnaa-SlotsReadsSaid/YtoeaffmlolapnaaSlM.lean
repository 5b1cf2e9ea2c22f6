/- Pages of cells: plain. -/
import Derived.Test.YtoeaffmlolapnaaSlP
namespace Go.Proofs.Ytoeaffmlolapnaa
open Go.RowKit
set_option maxRecDepth 100000
set_option linter.unusedVariables false
set_option linter.unusedSimpArgs false
set_option linter.unnecessarySimpa false

/-- A page: its size, its front, its cells, and where they lie. -/
structure Mdl where
  n : Nat
  F : List Int
  C : List (List Int)
  P : List Nat
def Mdl.h (M : Mdl) : Nat := M.F.length
def Mdl.k (M : Mdl) : Nat := M.C.length
def Mdl.cl (M : Mdl) (j : Nat) : List Int := M.C.getD j []
def Mdl.pl (M : Mdl) (j : Nat) : Nat := M.P.getD j 0
def Mdl.used (M : Mdl) (k : Nat) : Nat := M.h + 2 + 2 * k
structure Good (M : Mdl) : Prop where
  n0 : 256 ≤ M.n
  n1 : M.n ≤ 4096
  h1 : M.h ≤ 64
  same : M.P.length = M.k
  fit : M.used M.k ≤ M.n
  lo : ∀ j, j < M.k → M.used M.k ≤ M.pl j
  hi : ∀ j, j < M.k → M.pl j + 2 + (M.cl j).length ≤ M.n
  apart : ∀ i j, i < j → j < M.k → M.pl i + 2 + (M.cl i).length ≤ M.pl j ∨ M.pl j + 2 + (M.cl j).length ≤ M.pl i
  fb : IsB M.F
  cb : ∀ c ∈ M.C, IsB c
  room : M.used M.k + (M.C.map fun c => 2 + c.length).sum ≤ M.n
structure IsP (L : List Int) (M : Mdl) : Prop where
  len : L.length = M.n
  byts : IsB L
  front : ∀ i, i < M.h → bt L i = bt M.F i
  many : tw L M.h = (M.k : Int)
  slots : ∀ j, j < M.k → tw L (M.h + 2 + 2 * j) = (M.pl j : Int)
  lens : ∀ j, j < M.k → tw L (M.pl j) = ((M.cl j).length : Int)
  body : ∀ j, j < M.k → ∀ t, t < (M.cl j).length → bt L (M.pl j + 2 + t) = bt (M.cl j) t
  zero : ∀ x, M.used M.k ≤ x → x < M.n → (∀ j, j < M.k → x < M.pl j ∨ M.pl j + 2 + (M.cl j).length ≤ x) → bt L x = 0
theorem Mdl.cl_isB {M : Mdl} (g : Good M) (j : Nat) : IsB (M.cl j) := by
  unfold Mdl.cl
  by_cases h : j < M.C.length
  · have : M.C.getD j [] = M.C[j] := by simp [h]
    rw [this]; exact g.cb _ (List.getElem_mem h)
  · have : M.C.getD j [] = [] := by simp [List.getElem?_eq_none (Nat.le_of_not_lt h)]
    rw [this]; intro x hx; simp at hx
theorem two_eq {L L' : List Int} (hL : IsB L) (hL' : IsB L') {i : Nat} (h : tw L i = tw L' i) : bt L i = bt L' i ∧ bt L (i + 1) = bt L' (i + 1) := by
  have a0 := IsB.bt hL i
  have a1 := IsB.bt hL (i + 1)
  have b0 := IsB.bt hL' i
  have b1 := IsB.bt hL' (i + 1)
  unfold tw at h
  omega
/-- A page has one row of bytes. -/
theorem IsP.eq {L L' : List Int} {M : Mdl} (g : Good M) (a : IsP L M) (b : IsP L' M) : L = L' := by
  refine eq_of_bt (by rw [a.len, b.len]) fun x hx => ?_
  rw [a.len] at hx
  by_cases h1 : x < M.h
  · rw [a.front x h1, b.front x h1]
  have hm := two_eq a.byts b.byts (a.many.trans b.many.symm)
  by_cases h2 : x < M.h + 2
  · rcases (by omega : x = M.h ∨ x = M.h + 1) with rfl | rfl
    · exact hm.1
    · exact hm.2
  by_cases h3 : x < M.used M.k
  · unfold Mdl.used at h3
    obtain ⟨j, hj⟩ : ∃ j, j = (x - (M.h + 2)) / 2 := ⟨_, rfl⟩
    have hs := two_eq a.byts b.byts ((a.slots j (by omega)).trans (b.slots j (by omega)).symm)
    rcases (by omega : x = M.h + 2 + 2 * j ∨ x = M.h + 2 + 2 * j + 1) with rfl | rfl
    · exact hs.1
    · exact hs.2
  by_cases h4 : ∀ j, j < M.k → x < M.pl j ∨ M.pl j + 2 + (M.cl j).length ≤ x
  · rw [a.zero x (by omega) hx h4, b.zero x (by omega) hx h4]
  · obtain ⟨j, hj⟩ := Classical.not_forall.1 h4
    obtain ⟨hjk, hj⟩ := Classical.not_imp.1 hj
    have hs := two_eq a.byts b.byts ((a.lens j hjk).trans (b.lens j hjk).symm)
    by_cases h5 : x < M.pl j + 2
    · rcases (by omega : x = M.pl j ∨ x = M.pl j + 1) with rfl | rfl
      · exact hs.1
      · exact hs.2
    · obtain ⟨t, rfl⟩ : ∃ t, x = M.pl j + 2 + t := ⟨x - (M.pl j + 2), by omega⟩
      rw [a.body j hjk t (by omega), b.body j hjk t (by omega)]

/-! ### what is taken, and the least place -/
def takenC (C : List (List Int)) : Nat := (C.map fun c => 4 + c.length).sum
theorem takenC_app (C D : List (List Int)) : takenC (C ++ D) = takenC C + takenC D := by simp [takenC]
theorem takenC_one (c : List Int) : takenC [c] = 4 + c.length := by simp [takenC]
theorem takenC_take {C : List (List Int)} {i : Nat} (h : i < C.length) : takenC (C.take (i + 1)) = takenC (C.take i) + (4 + (C.getD i []).length) := by
  rw [List.take_succ_eq_append_getElem h, takenC_app, takenC_one]
  simp [h]
theorem takenC_le {C : List (List Int)} (b : Nat) (h : ∀ c ∈ C, c.length ≤ b) : takenC C ≤ (4 + b) * C.length := by
  induction C with
  | nil => simp [takenC]
  | cons c C ih =>
    have h1 := h c (List.mem_cons_self ..)
    have h2 := ih fun d hd => h d (List.mem_cons_of_mem _ hd)
    have e : takenC (c :: C) = (4 + c.length) + takenC C := by simp [takenC]
    rw [e, List.length_cons, Nat.mul_add]
    omega
def Mdl.left (M : Mdl) : Int := (M.n : Int) - M.h - 2 - takenC M.C
def minP (n : Nat) (P : List Nat) : Nat := P.foldl min n
theorem minP_app (n : Nat) (P : List Nat) (p : Nat) : minP n (P ++ [p]) = min (minP n P) p := by simp [minP]
theorem minP_take {n : Nat} {P : List Nat} {i : Nat} (h : i < P.length) : minP n (P.take (i + 1)) = min (minP n (P.take i)) (P.getD i 0) := by
  rw [List.take_succ_eq_append_getElem h, minP_app]
  simp [h]
theorem minP_le (n : Nat) (P : List Nat) : minP n P ≤ n := by
  induction P generalizing n with
  | nil => exact Nat.le_refl _
  | cons p P ih =>
    have := ih (min n p)
    show minP (min n p) P ≤ n
    omega
theorem minP_mem {n : Nat} {P : List Nat} {p : Nat} (h : p ∈ P) : minP n P ≤ p := by
  induction P generalizing n with
  | nil => simp at h
  | cons q P ih =>
    show minP (min n q) P ≤ p
    rcases List.mem_cons.1 h with rfl | h
    · have := minP_le (min n p) P
      omega
    · exact ih h
theorem minP_ge {n b : Nat} {P : List Nat} (h : ∀ p ∈ P, b ≤ p) (hn : b ≤ n) : b ≤ minP n P := by
  induction P generalizing n with
  | nil => exact hn
  | cons q P ih =>
    show b ≤ minP (min n q) P
    have := h q (List.mem_cons_self ..)
    exact ih (fun p hp => h p (List.mem_cons_of_mem _ hp)) (by omega)
def sz (C : List (List Int)) : Nat := (C.map fun c => 2 + c.length).sum
theorem sz_app (C D : List (List Int)) : sz (C ++ D) = sz C + sz D := by simp [sz]
theorem sz_one (c : List Int) : sz [c] = 2 + c.length := by simp [sz]
theorem sz_take {C : List (List Int)} {i : Nat} (h : i < C.length) : sz (C.take (i + 1)) = sz (C.take i) + (2 + (C.getD i []).length) := by
  rw [List.take_succ_eq_append_getElem h, sz_app, sz_one]
  simp [h]
theorem sz_take_le (C : List (List Int)) (i : Nat) : sz (C.take i) ≤ sz C := by
  have := sz_app (C.take i) (C.drop i)
  rw [List.take_append_drop] at this
  omega
theorem taken_sz (C : List (List Int)) : takenC C = sz C + 2 * C.length := by
  induction C with
  | nil => rfl
  | cons c C ih =>
    have e : takenC (c :: C) = (4 + c.length) + takenC C := by simp [takenC]
    have e2 : sz (c :: C) = (2 + c.length) + sz C := by simp [sz]
    rw [e, e2, ih, List.length_cons]
    omega
theorem Good.room' {M : Mdl} (g : Good M) : M.used M.k + sz M.C ≤ M.n := g.room
def Mdl.top (M : Mdl) : Nat := minP M.n M.P
theorem Good.clen {M : Mdl} (g : Good M) : ∀ c ∈ M.C, c.length ≤ 4096 := by
  intro c hc
  obtain ⟨j, hj, rfl⟩ := List.getElem_of_mem hc
  have h1 := g.hi j hj
  have h2 : M.cl j = M.C[j] := by simp [Mdl.cl, hj]
  rw [h2] at h1
  have := g.n1
  omega
theorem Good.kle {M : Mdl} (g : Good M) : M.k ≤ 2047 := by
  have h1 := g.fit
  have h2 := g.n1
  unfold Mdl.used at h1
  omega
theorem Good.plen {M : Mdl} (g : Good M) : ∀ p ∈ M.P, M.used M.k ≤ p ∧ p + 2 ≤ M.n := by
  intro p hp
  obtain ⟨j, hj, rfl⟩ := List.getElem_of_mem hp
  have hj' : j < M.k := by rw [← g.same]; exact hj
  have h1 := g.lo j hj'
  have h2 := g.hi j hj'
  have h3 : M.pl j = M.P[j] := by simp [Mdl.pl, hj]
  rw [h3] at h1 h2
  omega
end Go.Proofs.Ytoeaffmlolapnaa
