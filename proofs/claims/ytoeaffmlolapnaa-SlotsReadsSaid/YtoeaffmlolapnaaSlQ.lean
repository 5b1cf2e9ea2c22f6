/- Pages of cells: a cell taken away, plain. -/
import Derived.Test.YtoeaffmlolapnaaSlO
namespace Go.Proofs.Ytoeaffmlolapnaa
open Go.RowKit
set_option maxRecDepth 100000
set_option linter.unusedVariables false
set_option linter.unusedSimpArgs false
set_option linter.unnecessarySimpa false

def Mdl.del (M : Mdl) (i : Nat) : Mdl := { M with C := M.C.take i ++ M.C.drop (i + 1), P := M.P.take i ++ M.P.drop (i + 1) }
def delL (h k i q m : Nat) (L : List Int) : List Int :=
  splice (splice (splice (splice L q (List.replicate (2 + m) 0)) (h + 2 + 2 * i) (((splice L q (List.replicate (2 + m) 0)).drop (h + 2 + 2 * (i + 1))).take (2 * (k - 1 - i)))) (h + 2 + 2 * (k - 1)) (fxL 0 2)) h (fxL ((k : Int) - 1) 2)
theorem del_cl {M : Mdl} {i : Nat} (hi : i < M.k) (j : Nat) : (M.del i).cl j = if j < i then M.cl j else M.cl (j + 1) := getD_del M.C i j [] hi
theorem del_pl {M : Mdl} {i : Nat} (g : Good M) (hi : i < M.k) (j : Nat) : (M.del i).pl j = if j < i then M.pl j else M.pl (j + 1) := getD_del M.P i j 0 (by rw [g.same]; exact hi)
theorem del_k {M : Mdl} {i : Nat} (hi : i < M.k) : (M.del i).k = M.k - 1 := by
  unfold Mdl.k at *
  simp [Mdl.del]
  omega
theorem Good.del {M : Mdl} (g : Good M) {i : Nat} (hi : i < M.k) : Good (M.del i) := by
  have hk := del_k hi
  have hus : ∀ j, (M.del i).used j = M.used j := fun _ => rfl
  have hu : ∀ j, M.used j = M.h + 2 + 2 * j := fun _ => rfl
  refine ⟨g.n0, g.n1, g.h1, ?_, ?_, fun j hj => ?_, fun j hj => ?_, fun a b hab hb => ?_, g.fb, fun d hd => ?_, ?_⟩
  · rw [hk]
    have := g.same
    simp [Mdl.del]
    omega
  · rw [hk, hus]
    show M.used (M.k - 1) ≤ M.n
    have := g.fit
    rw [hu] at this ⊢
    omega
  · rw [hk] at hj
    rw [hk, hus, del_pl g hi, hu]
    split
    · have h1 := g.lo j (by omega); rw [hu] at h1; omega
    · have h1 := g.lo (j + 1) (by omega); rw [hu] at h1; omega
  · rw [hk] at hj
    rw [del_pl g hi, del_cl hi]
    show _ ≤ M.n
    split
    · exact g.hi j (by omega)
    · exact g.hi (j + 1) (by omega)
  · rw [hk] at hb
    rw [del_pl g hi, del_pl g hi, del_cl hi, del_cl hi]
    by_cases ha : a < i
    · rw [if_pos ha, if_pos ha]
      by_cases hb1 : b < i
      · rw [if_pos hb1, if_pos hb1]; exact g.apart a b hab (by omega)
      · rw [if_neg hb1, if_neg hb1]; exact g.apart a (b + 1) (by omega) (by omega)
    · rw [if_neg ha, if_neg ha, if_neg (by omega), if_neg (by omega)]
      exact g.apart (a + 1) (b + 1) (by omega) (by omega)
  · rcases List.mem_append.1 hd with h | h
    · exact g.cb d (List.mem_of_mem_take h)
    · exact g.cb d (List.mem_of_mem_drop h)
  · rw [hk, hus]
    show M.used (M.k - 1) + sz (M.C.take i ++ M.C.drop (i + 1)) ≤ M.n
    have e1 := sz_app (M.C.take (i + 1)) (M.C.drop (i + 1))
    rw [List.take_append_drop] at e1
    have e2 := sz_take (C := M.C) (i := i) hi
    have e3 := g.room'
    rw [sz_app]
    rw [hu] at e3 ⊢
    omega

theorem del_page {M : Mdl} (g : Good M) {L : List Int} (p : IsP L M) {i q m : Nat} (hi : i < M.k) (hq : M.pl i = q) (hm : (M.cl i).length = m) : IsP (delL M.h M.k i q m L) (M.del i) ∧ (delL M.h M.k i q m L).length = L.length ∧ IsB (delL M.h M.k i q m L) := by
  have hk := del_k hi
  have hu : ∀ j, M.used j = M.h + 2 + 2 * j := fun _ => rfl
  have hn1 := g.n1
  have hkl := g.kle
  have hfit := g.fit
  rw [hu] at hfit
  have hlo : ∀ j, j < M.k → M.h + 2 + 2 * M.k ≤ M.pl j := g.lo
  have hhi := g.hi i hi
  have hloi := hlo i hi
  rw [hq] at hloi
  rw [hq, hm] at hhi
  have hzl : (List.replicate (2 + m) (0 : Int)).length = 2 + m := List.length_replicate
  have hzb : IsB (List.replicate (2 + m) (0 : Int)) := by intro x hx; rw [List.eq_of_mem_replicate hx]; omega
  have hl : q + (List.replicate (2 + m) (0 : Int)).length ≤ L.length := by rw [hzl, p.len]; omega
  obtain ⟨A, hA⟩ : ∃ A, A = splice L q (List.replicate (2 + m) 0) := ⟨_, rfl⟩
  have hAl : A.length = M.n := by rw [hA, splice_len hl, p.len]
  have hAb : IsB A := by rw [hA]; exact splice_isB p.byts hzb q
  obtain ⟨S, hS⟩ : ∃ S, S = (A.drop (M.h + 2 + 2 * (i + 1))).take (2 * (M.k - 1 - i)) := ⟨_, rfl⟩
  have hSl : S.length = 2 * (M.k - 1 - i) := by rw [hS]; simp; omega
  have hSb : IsB S := by rw [hS]; exact isB_dt hAb _ _
  have hft : M.h + 2 + 2 * i + S.length ≤ A.length := by omega
  obtain ⟨B, hBd⟩ : ∃ B, B = splice A (M.h + 2 + 2 * i) S := ⟨_, rfl⟩
  have hBl : B.length = M.n := by rw [hBd, splice_len hft, hAl]
  have hBb : IsB B := by rw [hBd]; exact splice_isB hAb hSb _
  obtain ⟨D, hD⟩ : ∃ D, D = splice B (M.h + 2 + 2 * (M.k - 1)) (fxL 0 2) := ⟨_, rfl⟩
  have hs1 : M.h + 2 + 2 * (M.k - 1) + 2 ≤ B.length := by omega
  have hDl : D.length = M.n := by rw [hD, set_len hs1, hBl]
  have hDb : IsB D := by rw [hD]; exact splice_isB hBb (fxL_isB _ _) _
  have hs2 : M.h + 2 ≤ D.length := by omega
  have hZ : delL M.h M.k i q m L = splice D M.h (fxL ((M.k : Int) - 1) 2) := by rw [hD, hBd, hS, hA]; rfl
  rw [hZ]
  have hZl := set_len (v := (M.k : Int) - 1) hs2
  have hZb : IsB (splice D M.h (fxL ((M.k : Int) - 1) 2)) := splice_isB hDb (fxL_isB _ _) _
  have hout : ∀ x, x < M.h ∨ M.h + 2 + 2 * M.k ≤ x → bt (splice D M.h (fxL ((M.k : Int) - 1) 2)) x = bt A x := by
    intro x hx
    rw [bt_set_out hs2 (by omega), hD, bt_set_out hs1 (by omega), hBd, bt_splice hft, if_neg (by omega)]
  have htw : ∀ x, M.h + 2 + 2 * M.k ≤ x → tw (splice D M.h (fxL ((M.k : Int) - 1) 2)) x = tw A x := by
    intro x hx
    unfold tw
    rw [hout x (by omega), hout (x + 1) (by omega)]
  have hAout : ∀ x, x < q ∨ q + 2 + m ≤ x → bt A x = bt L x := by
    intro x hx
    rw [hA, bt_splice hl, hzl, if_neg (by omega)]
  have hAin : ∀ x, q ≤ x → x < q + 2 + m → bt A x = 0 := by
    intro x h1 h2
    rw [hA, bt_splice hl, hzl, if_pos (by omega), bt_zeros]
  have hslA : ∀ j, j < M.k → tw A (M.h + 2 + 2 * j) = (M.pl j : Int) := by
    intro j hj
    rw [hA, tw_out hl (by omega), p.slots j hj]
  have hslB : ∀ j, j < M.k - 1 → tw B (M.h + 2 + 2 * j) = if j < i then (M.pl j : Int) else (M.pl (j + 1) : Int) := by
    intro j hj
    by_cases h : j < i
    · rw [if_pos h, hBd, tw_out hft (by omega), hslA j (by omega)]
    · rw [if_neg h, ← hslA (j + 1) (by omega), hBd]
      unfold tw
      rw [bt_splice hft, bt_splice hft, if_pos (by omega), if_pos (by omega), hS, bt_dt, bt_dt, if_pos (by omega), if_pos (by omega)]
      rw [show M.h + 2 + 2 * (i + 1) + (M.h + 2 + 2 * j - (M.h + 2 + 2 * i)) = M.h + 2 + 2 * (j + 1) by omega, show M.h + 2 + 2 * (i + 1) + (M.h + 2 + 2 * j + 1 - (M.h + 2 + 2 * i)) = M.h + 2 + 2 * (j + 1) + 1 by omega]
  have hap : ∀ a, a < M.k → a ≠ i → M.pl a + 2 + (M.cl a).length ≤ q ∨ q + 2 + m ≤ M.pl a := by
    intro a ha hne
    rw [← hq, ← hm]
    rcases (by omega : a < i ∨ i < a) with h | h
    · exact g.apart a i h hi
    · exact (g.apart i a h ha).symm
  have old : ∀ a, a < M.k → a ≠ i → tw (splice D M.h (fxL ((M.k : Int) - 1) 2)) (M.pl a) = ((M.cl a).length : Int) := by
    intro a ha hne
    have h1 := hlo a ha
    have h2 := hap a ha hne
    rw [htw _ (by omega)]
    unfold tw
    rw [hAout _ (by omega), hAout _ (by omega)]
    exact p.lens a ha
  have oldb : ∀ a, a < M.k → a ≠ i → ∀ t, t < (M.cl a).length → bt (splice D M.h (fxL ((M.k : Int) - 1) 2)) (M.pl a + 2 + t) = bt (M.cl a) t := by
    intro a ha hne t ht
    have h1 := hlo a ha
    have h2 := hap a ha hne
    rw [hout _ (by omega), hAout _ (by omega), p.body a ha t ht]
  refine ⟨⟨by rw [hZl, hDl]; rfl, hZb, fun x hx => ?_, ?_, fun j hj => ?_, fun j hj => ?_, fun j hj t ht => ?_, fun x h1 h2 h3 => ?_⟩, by rw [hZl, hDl, p.len], hZb⟩
  · have hx' : x < M.h := hx
    rw [hout x (.inl hx'), hAout x (by omega)]
    exact p.front x hx'
  · rw [hk]
    show tw _ M.h = _
    rw [tw_set (by omega) (by omega) hs2]
    omega
  · rw [hk] at hj
    rw [del_pl g hi]
    show tw _ (M.h + 2 + 2 * j) = _
    rw [tw_set_out hs2 (by omega), hD, tw_set_out hs1 (by omega), hslB j hj]
    split <;> rfl
  · rw [hk] at hj
    rw [del_pl g hi, del_cl hi]
    by_cases h : j < i
    · rw [if_pos h, if_pos h]; exact old j (by omega) (by omega)
    · rw [if_neg h, if_neg h]; exact old (j + 1) (by omega) (by omega)
  · rw [hk] at hj
    rw [del_cl hi] at ht
    rw [del_pl g hi, del_cl hi]
    by_cases h : j < i
    · rw [if_pos h] at ht
      rw [if_pos h, if_pos h]; exact oldb j (by omega) (by omega) t ht
    · rw [if_neg h] at ht
      rw [if_neg h, if_neg h]; exact oldb (j + 1) (by omega) (by omega) t ht
  · have h1' : M.h + 2 + 2 * (M.k - 1) ≤ x := by have : (M.del i).used (M.del i).k ≤ x := h1; rw [hk] at this; exact this
    have h2' : x < M.n := h2
    by_cases hx : x < M.h + 2 + 2 * M.k
    · -- the last slot
      rw [bt_set_out hs2 (by omega), hD, bt_splice (by rw [fxL_length]; exact hs1), fxL_length, if_pos (by omega)]
      rcases (by omega : x - (M.h + 2 + 2 * (M.k - 1)) = 0 ∨ x - (M.h + 2 + 2 * (M.k - 1)) = 1) with e | e <;> rw [e] <;> rfl
    · rw [hout x (.inr (by omega))]
      by_cases hin : q ≤ x ∧ x < q + 2 + m
      · exact hAin x hin.1 hin.2
      · rw [hAout x (by omega)]
        refine p.zero x (by rw [hu]; omega) h2' fun j hj => ?_
        by_cases hji : j = i
        · subst hji; rw [hq, hm]; omega
        · by_cases h : j < i
          · have := h3 j (by rw [hk]; omega)
            rwa [del_pl g hi, del_cl hi, if_pos h, if_pos h] at this
          · have := h3 (j - 1) (by rw [hk]; omega)
            rwa [del_pl g hi, del_cl hi, if_neg (by omega), if_neg (by omega), Nat.sub_add_cancel (by omega)] at this
end Go.Proofs.Ytoeaffmlolapnaa
