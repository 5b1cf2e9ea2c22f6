/- Pages of cells: the document's bytes of a page, plain. -/
import Derived.Test.YtoeaffmlolapnaaSlU
namespace Go.Proofs.Ytoeaffmlolapnaa
open Go.RowKit
set_option maxRecDepth 100000
set_option linter.unusedVariables false
set_option linter.unusedSimpArgs false
set_option linter.unnecessarySimpa false

theorem bt_appL {A B : List Int} {i : Nat} (h : i < A.length) : bt (A ++ B) i = bt A i := by
  unfold bt
  simp only [List.getD_eq_getElem?_getD]
  rw [List.getElem?_append_left h]
theorem bt_appR (A B : List Int) (i : Nat) : bt (A ++ B) (A.length + i) = bt B i := by
  unfold bt
  simp only [List.getD_eq_getElem?_getD]
  rw [List.getElem?_append_right (by omega), Nat.add_sub_cancel_left]
theorem tw_appL {A B : List Int} {i : Nat} (h : i + 2 ≤ A.length) : tw (A ++ B) i = tw A i := by
  unfold tw
  rw [bt_appL (by omega), bt_appL (by omega)]
theorem tw_appR (A B : List Int) (i : Nat) : tw (A ++ B) (A.length + i) = tw B i := by
  unfold tw
  rw [bt_appR, Nat.add_assoc, bt_appR]
theorem tw_fx2 {v : Int} (h0 : 0 ≤ v) (h1 : v ≤ 65535) : tw (fxL v 2) 0 = v := by
  obtain ⟨a, b⟩ := bt_fx2 h0 h1
  unfold tw
  rw [a, show 0 + 1 = 1 from rfl, b]
  omega
def slotB (P : List Nat) : List Int := P.flatMap fun (p : Nat) => fxL (p : Int) 2
theorem slotB_len (P : List Nat) : (slotB P).length = 2 * P.length := by
  induction P with
  | nil => rfl
  | cons p P ih =>
    show (fxL (p : Int) 2 ++ slotB P).length = _
    rw [List.length_append, fxL_length, ih, List.length_cons]
    omega
theorem slotB_app (P Q : List Nat) : slotB (P ++ Q) = slotB P ++ slotB Q := by simp [slotB]
theorem slotB_one (p : Nat) : slotB [p] = fxL (p : Int) 2 := by simp [slotB]
theorem slotB_take {P : List Nat} {j : Nat} (h : j < P.length) : slotB (P.take (j + 1)) = slotB (P.take j) ++ fxL (P.getD j 0 : Int) 2 := by
  rw [List.take_succ_eq_append_getElem h, slotB_app, slotB_one]
  simp [h]
theorem slotB_isB (P : List Nat) : IsB (slotB P) := by
  induction P with
  | nil => intro x hx; simp [slotB] at hx
  | cons p P ih =>
    intro x hx
    have e : slotB (p :: P) = fxL (p : Int) 2 ++ slotB P := rfl
    rw [e] at hx
    rcases List.mem_append.1 hx with h | h
    · exact fxL_isB _ _ x h
    · exact ih x h
theorem tw_slotB {P : List Nat} (hP : ∀ p ∈ P, p ≤ 65535) {i : Nat} (h : i < P.length) : tw (slotB P) (2 * i) = (P.getD i 0 : Int) := by
  induction P generalizing i with
  | nil => simp at h
  | cons p P ih =>
    have e : slotB (p :: P) = fxL (p : Int) 2 ++ slotB P := rfl
    have hp := hP p (List.mem_cons_self ..)
    have hl : (fxL (p : Int) 2).length = 2 := fxL_length _ _
    rw [e]
    cases i with
    | zero => rw [Nat.mul_zero, tw_appL (by omega), tw_fx2 (by omega) (by omega)]; rfl
    | succ i =>
      have h2 := tw_appR (fxL (p : Int) 2) (slotB P) (2 * i)
      rw [hl] at h2
      rw [show 2 * (i + 1) = 2 + 2 * i by omega, h2, ih (fun q hq => hP q (List.mem_cons_of_mem _ hq)) (by simpa using h)]
      simp
def frontL (M : Mdl) : List Int := M.F ++ fxL (M.k : Int) 2 ++ slotB M.P
def baseL (M : Mdl) : List Int := frontL M ++ List.replicate (M.n - M.used M.k) 0
theorem frontL_len {M : Mdl} (g : Good M) : (frontL M).length = M.used M.k := by
  unfold frontL
  rw [List.length_append, List.length_append, fxL_length, slotB_len, g.same]
  rfl
theorem frontL_isB {M : Mdl} (g : Good M) : IsB (frontL M) := by
  intro x hx
  unfold frontL at hx
  rcases List.mem_append.1 hx with h | h
  · rcases List.mem_append.1 h with h | h
    · exact g.fb x h
    · exact fxL_isB _ _ x h
  · exact slotB_isB _ x h
structure BsS (L : List Int) (M : Mdl) (j : Nat) : Prop where
  len : L.length = M.n
  byts : IsB L
  front : ∀ i, i < M.h → bt L i = bt M.F i
  many : tw L M.h = (M.k : Int)
  slots : ∀ i, i < M.k → tw L (M.h + 2 + 2 * i) = (M.pl i : Int)
  lens : ∀ i, i < j → tw L (M.pl i) = ((M.cl i).length : Int)
  body : ∀ i, i < j → ∀ t, t < (M.cl i).length → bt L (M.pl i + 2 + t) = bt (M.cl i) t
  zero : ∀ x, M.used M.k ≤ x → x < M.n → (∀ i, i < j → x < M.pl i ∨ M.pl i + 2 + (M.cl i).length ≤ x) → bt L x = 0
theorem BsS.start {M : Mdl} (g : Good M) : BsS (baseL M) M 0 := by
  have hf := g.fit
  have hu : M.used M.k = M.h + 2 + 2 * M.k := rfl
  have hfl := frontL_len g
  have hk := g.kle
  have hh : M.F.length = M.h := rfl
  have hF2 : (M.F ++ fxL (M.k : Int) 2).length = M.h + 2 := by rw [List.length_append, fxL_length, hh]
  have hP : ∀ p ∈ M.P, p ≤ 65535 := fun p hp => by have := g.plen p hp; have := g.n1; omega
  refine ⟨?_, ?_, fun i hi => ?_, ?_, fun i hi => ?_, fun i hi => by omega, fun i hi => by omega, fun x h1 h2 _ => ?_⟩
  · unfold baseL
    rw [List.length_append, hfl, List.length_replicate]
    omega
  · intro x hx
    rcases List.mem_append.1 hx with h | h
    · exact frontL_isB g x h
    · rw [List.eq_of_mem_replicate h]; omega
  · unfold baseL
    rw [bt_appL (by omega)]
    unfold frontL
    rw [bt_appL (by omega), bt_appL (by omega)]
  · unfold baseL
    rw [tw_appL (by omega)]
    unfold frontL
    rw [tw_appL (by omega)]
    have := tw_appR M.F (fxL (M.k : Int) 2) 0
    rw [Nat.add_zero, hh] at this
    rw [this, tw_fx2 (by omega) (by omega)]
  · unfold baseL
    rw [tw_appL (by omega)]
    unfold frontL
    have := tw_appR (M.F ++ fxL (M.k : Int) 2) (slotB M.P) (2 * i)
    rw [hF2] at this
    rw [this, tw_slotB hP (by rw [g.same]; exact hi)]
    rfl
  · unfold baseL
    obtain ⟨t, rfl⟩ : ∃ t, x = (frontL M).length + t := ⟨x - (frontL M).length, by omega⟩
    rw [bt_appR, bt_zeros]
theorem BsS.step {L : List Int} {M : Mdl} (g : Good M) {j : Nat} (hj : j < M.k) (p : BsS L M j) : BsS (layL L (M.pl j) (M.cl j)) M (j + 1) := by
  have e1 := g.hi j hj
  have e2 := g.lo j hj
  have hu : M.used M.k = M.h + 2 + 2 * M.k := rfl
  have hn1 := g.n1
  have hl : M.pl j + 2 + (M.cl j).length ≤ L.length := by rw [p.len]; omega
  have hl2 := layL_len hl
  refine ⟨by rw [hl2, p.len], layL_isB p.byts (Mdl.cl_isB g j) _, fun i hi => ?_, ?_, fun i hi => ?_, fun i hi => ?_, fun i hi t ht => ?_, fun x h1 h2 h3 => ?_⟩
  · rw [bt_lay_out hl (by omega), p.front i hi]
  · rw [tw_lay_out hl (by omega), p.many]
  · rw [tw_lay_out hl (by omega), p.slots i hi]
  · by_cases h : i = j
    · subst h
      rw [tw_lay hl (by omega)]
    · have h1 := g.apart i j (by omega) hj
      rw [tw_lay_out hl (by omega), p.lens i (by omega)]
  · by_cases h : i = j
    · subst h
      rw [bt_lay_in hl ht]
    · have h1 := g.apart i j (by omega) hj
      rw [bt_lay_out hl (by omega), p.body i (by omega) t ht]
  · have h4 := h3 j (by omega)
    rw [bt_lay_out hl (by omega), p.zero x h1 h2 fun i hi => h3 i (by omega)]
theorem BsS.done {L : List Int} {M : Mdl} (p : BsS L M M.k) : IsP L M := ⟨p.len, p.byts, p.front, p.many, p.slots, p.lens, p.body, p.zero⟩
/-- A cell laid byte by byte. -/
theorem layL_eq (L cs : List Int) (q : Nat) (h : q + 2 + cs.length ≤ L.length) : layL L q cs = splice L q (fxL (cs.length : Int) 2 ++ cs) := by
  have hl : q + (fxL (cs.length : Int) 2 ++ cs).length ≤ L.length := by rw [List.length_append, fxL_length]; omega
  have hf : (fxL (cs.length : Int) 2).length = 2 := fxL_length _ _
  refine eq_of_bt (by rw [layL_len h, splice_len hl]) fun x hx => ?_
  rw [bt_lay h, bt_splice hl, List.length_append, hf]
  by_cases h1 : q + 2 ≤ x ∧ x < q + 2 + cs.length
  · rw [if_pos h1, if_pos (by omega)]
    obtain ⟨t, rfl⟩ : ∃ t, x = q + 2 + t := ⟨x - (q + 2), by omega⟩
    have := bt_appR (fxL (cs.length : Int) 2) cs t
    rw [hf] at this
    rw [show q + 2 + t - (q + 2) = t by omega, show q + 2 + t - q = 2 + t by omega, this]
  · rw [if_neg h1]
    by_cases h2 : q ≤ x ∧ x < q + 2
    · rw [if_pos h2, if_pos (by omega), bt_appL (by omega)]
    · rw [if_neg h2, if_neg (by omega)]
theorem splice_step {L cs : List Int} {q k : Nat} (h : q + cs.length ≤ L.length) (hk : k < cs.length) : (splice L q (cs.take k)).set (q + k) (bt cs k) = splice L q (cs.take (k + 1)) := by
  have h1 : q + (cs.take k).length ≤ L.length := by rw [List.length_take]; omega
  have h2 : q + (cs.take (k + 1)).length ≤ L.length := by rw [List.length_take]; omega
  refine eq_of_bt (by rw [List.length_set, splice_len h1, splice_len h2]) fun x hx => ?_
  rw [List.length_set, splice_len h1] at hx
  rw [bt_splice h2, List.length_take]
  unfold bt
  simp only [List.getD_eq_getElem?_getD, List.getElem?_set]
  by_cases e : q + k = x
  · subst e
    rw [if_pos rfl, if_pos (by rw [splice_len h1]; exact hx), if_pos (by omega), List.getElem?_take, if_pos (by omega), show q + k - q = k by omega]
    rfl
  · rw [if_neg e]
    have := bt_splice h1 x
    unfold bt at this
    simp only [List.getD_eq_getElem?_getD] at this
    rw [this, List.length_take]
    by_cases h3 : q ≤ x ∧ x < q + min k cs.length
    · rw [if_pos h3, if_pos (by omega), List.getElem?_take, if_pos (by omega), List.getElem?_take, if_pos (by omega)]
    · rw [if_neg h3, if_neg (by omega)]
end Go.Proofs.Ytoeaffmlolapnaa
