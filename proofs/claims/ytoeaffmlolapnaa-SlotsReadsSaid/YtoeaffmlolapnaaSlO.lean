/- Pages of cells: a cell put in, a cell taken away, plain. -/
import Derived.Test.YtoeaffmlolapnaaSlN
namespace Go.Proofs.Ytoeaffmlolapnaa
open Go.RowKit
set_option maxRecDepth 100000
set_option linter.unusedVariables false
set_option linter.unusedSimpArgs false
set_option linter.unnecessarySimpa false

theorem getD_ins {α : Type} (l : List α) (i j : Nat) (c d : α) (hi : i ≤ l.length) : (l.take i ++ c :: l.drop i).getD j d = if j < i then l.getD j d else if j = i then c else l.getD (j - 1) d := by
  simp only [List.getD_eq_getElem?_getD]
  by_cases h : j < i
  · rw [if_pos h, List.getElem?_append_left (by simp; omega), List.getElem?_take, if_pos h]
  · rw [if_neg h, List.getElem?_append_right (by simp; omega)]
    have e : j - (l.take i).length = j - i := by rw [List.length_take]; omega
    rw [e]
    by_cases h2 : j = i
    · subst h2; simp
    · rw [if_neg h2]
      obtain ⟨m, hm⟩ : ∃ m, j - i = m + 1 := ⟨j - i - 1, by omega⟩
      rw [hm, List.getElem?_cons_succ, List.getElem?_drop]
      congr 2
      omega
theorem getD_del {α : Type} (l : List α) (i j : Nat) (d : α) (hi : i < l.length) : (l.take i ++ l.drop (i + 1)).getD j d = if j < i then l.getD j d else l.getD (j + 1) d := by
  simp only [List.getD_eq_getElem?_getD]
  by_cases h : j < i
  · rw [if_pos h, List.getElem?_append_left (by simp; omega), List.getElem?_take, if_pos h]
  · rw [if_neg h, List.getElem?_append_right (by simp; omega), List.getElem?_drop]
    congr 2
    rw [List.length_take]
    omega

/-! ### put in -/
def Mdl.ins (M : Mdl) (i q : Nat) (c : List Int) : Mdl := { M with C := M.C.take i ++ c :: M.C.drop i, P := M.P.take i ++ q :: M.P.drop i }
def insL (h k i q : Nat) (L c : List Int) : List Int :=
  splice (splice (splice (layL L q c) (h + 2 + 2 * (i + 1)) (((layL L q c).drop (h + 2 + 2 * i)).take (2 * (k - i)))) (h + 2 + 2 * i) (fxL (q : Int) 2)) h (fxL ((k : Int) + 1) 2)
theorem ins_cl {M : Mdl} {i q : Nat} {c : List Int} (hi : i ≤ M.k) (j : Nat) : (M.ins i q c).cl j = if j < i then M.cl j else if j = i then c else M.cl (j - 1) := getD_ins M.C i j c [] hi
theorem ins_pl {M : Mdl} {i q : Nat} {c : List Int} (g : Good M) (hi : i ≤ M.k) (j : Nat) : (M.ins i q c).pl j = if j < i then M.pl j else if j = i then q else M.pl (j - 1) := getD_ins M.P i j q 0 (by rw [g.same]; exact hi)
theorem ins_k {M : Mdl} {i q : Nat} {c : List Int} (hi : i ≤ M.k) : (M.ins i q c).k = M.k + 1 := by
  unfold Mdl.k at *
  simp [Mdl.ins]
  omega
theorem top_le {M : Mdl} (g : Good M) {j : Nat} (hj : j < M.k) : M.top ≤ M.pl j := by
  have h : j < M.P.length := by rw [g.same]; exact hj
  have e : M.pl j = M.P[j] := by simp [Mdl.pl, h]
  rw [e]
  exact minP_mem (List.getElem_mem h)
theorem top_n (M : Mdl) : M.top ≤ M.n := minP_le _ _
theorem Good.ins {M : Mdl} (g : Good M) {i q : Nat} {c : List Int} (hi : i ≤ M.k) (hq : q + 2 + c.length ≤ M.top) (hu : M.used (M.k + 1) ≤ q) (hr : M.used (M.k + 1) + sz M.C + (2 + c.length) ≤ M.n) (hB : IsB c) : Good (M.ins i q c) := by
  have hk := ins_k (q := q) (c := c) hi
  have hus : ∀ j, (M.ins i q c).used j = M.used j := fun _ => rfl
  have huk : M.used (M.k + 1) = M.used M.k + 2 := rfl
  refine ⟨g.n0, g.n1, g.h1, ?_, ?_, fun j hj => ?_, fun j hj => ?_, fun a b hab hb => ?_, g.fb, fun d hd => ?_, ?_⟩
  · rw [hk]
    have := g.same
    simp [Mdl.ins]
    omega
  · rw [hk, hus]; show M.used (M.k + 1) ≤ M.n; omega
  · rw [hk] at hj
    rw [hk, hus, ins_pl g hi]
    split
    · have h1 := top_le g (j := j) (by omega); omega
    · split
      · exact hu
      · have h1 := top_le g (j := j - 1) (by omega); omega
  · rw [hk] at hj
    rw [ins_pl g hi, ins_cl hi]
    show _ ≤ M.n
    split
    · exact g.hi j (by omega)
    · split
      · have := top_n M; omega
      · exact g.hi (j - 1) (by omega)
  · rw [hk] at hb
    rw [ins_pl g hi, ins_pl g hi, ins_cl hi, ins_cl hi]
    by_cases ha : a < i
    · rw [if_pos ha, if_pos ha]
      by_cases hb1 : b < i
      · rw [if_pos hb1, if_pos hb1]; exact g.apart a b hab (by omega)
      · rw [if_neg hb1, if_neg hb1]
        by_cases hb2 : b = i
        · rw [if_pos hb2, if_pos hb2]; have := top_le g (j := a) (by omega); right; omega
        · rw [if_neg hb2, if_neg hb2]; exact g.apart a (b - 1) (by omega) (by omega)
    · rw [if_neg ha, if_neg ha]
      have hb1 : ¬ b < i := by omega
      have hb2 : ¬ b = i := by omega
      rw [if_neg hb1, if_neg hb2, if_neg hb1, if_neg hb2]
      by_cases ha2 : a = i
      · rw [if_pos ha2, if_pos ha2]; have := top_le g (j := b - 1) (by omega); left; omega
      · rw [if_neg ha2, if_neg ha2]; exact g.apart (a - 1) (b - 1) (by omega) (by omega)
  · rcases List.mem_append.1 hd with h | h
    · exact g.cb d (List.mem_of_mem_take h)
    · rcases List.mem_cons.1 h with rfl | h
      · exact hB
      · exact g.cb d (List.mem_of_mem_drop h)
  · rw [hk, hus]
    show M.used (M.k + 1) + sz (M.C.take i ++ c :: M.C.drop i) ≤ M.n
    have e1 : sz (M.C.take i ++ c :: M.C.drop i) = sz M.C + (2 + c.length) := by
      rw [show M.C.take i ++ c :: M.C.drop i = M.C.take i ++ ([c] ++ M.C.drop i) from rfl, sz_app, sz_app, sz_one]
      have := sz_app (M.C.take i) (M.C.drop i)
      rw [List.take_append_drop] at this
      omega
    rw [e1]
    omega

theorem ins_page {M : Mdl} (g : Good M) {L : List Int} (p : IsP L M) {i q : Nat} {c : List Int} (hi : i ≤ M.k) (hq : q + 2 + c.length ≤ M.top) (hu : M.used (M.k + 1) ≤ q) (hB : IsB c) : IsP (insL M.h M.k i q L c) (M.ins i q c) ∧ (insL M.h M.k i q L c).length = L.length ∧ IsB (insL M.h M.k i q L c) := by
  have hk := ins_k (q := q) (c := c) hi
  have hus : ∀ j, M.used j = M.h + 2 + 2 * j := fun _ => rfl
  have htn := top_n M
  have hn1 := g.n1
  have hkl := g.kle
  rw [hus] at hu
  have hl : q + 2 + c.length ≤ L.length := by rw [p.len]; omega
  obtain ⟨A, hA⟩ : ∃ A, A = layL L q c := ⟨_, rfl⟩
  have hAl : A.length = M.n := by rw [hA, layL_len hl, p.len]
  have hAb : IsB A := by rw [hA]; exact layL_isB p.byts hB q
  obtain ⟨S, hS⟩ : ∃ S, S = (A.drop (M.h + 2 + 2 * i)).take (2 * (M.k - i)) := ⟨_, rfl⟩
  have hSl : S.length = 2 * (M.k - i) := by rw [hS]; simp; omega
  have hSb : IsB S := by rw [hS]; exact isB_dt hAb _ _
  have hfit : M.h + 2 + 2 * (i + 1) + S.length ≤ A.length := by omega
  obtain ⟨B, hBd⟩ : ∃ B, B = splice A (M.h + 2 + 2 * (i + 1)) S := ⟨_, rfl⟩
  have hBl : B.length = M.n := by rw [hBd, splice_len hfit, hAl]
  have hBb : IsB B := by rw [hBd]; exact splice_isB hAb hSb _
  obtain ⟨D, hD⟩ : ∃ D, D = splice B (M.h + 2 + 2 * i) (fxL (q : Int) 2) := ⟨_, rfl⟩
  have hs1 : M.h + 2 + 2 * i + 2 ≤ B.length := by omega
  have hDl : D.length = M.n := by rw [hD, set_len hs1, hBl]
  have hDb : IsB D := by rw [hD]; exact splice_isB hBb (fxL_isB _ _) _
  have hs2 : M.h + 2 ≤ D.length := by omega
  have hZ : insL M.h M.k i q L c = splice D M.h (fxL ((M.k : Int) + 1) 2) := by rw [hD, hBd, hS, hA]; rfl
  rw [hZ]
  have hZl := set_len (v := (M.k : Int) + 1) hs2
  have hZb : IsB (splice D M.h (fxL ((M.k : Int) + 1) 2)) := splice_isB hDb (fxL_isB _ _) _
  -- bytes elsewhere
  have hout : ∀ x, x < M.h ∨ M.h + 2 + 2 * (M.k + 1) ≤ x → bt (splice D M.h (fxL ((M.k : Int) + 1) 2)) x = bt A x := by
    intro x hx
    rw [bt_set_out hs2 (by omega), hD, bt_set_out hs1 (by omega), hBd, bt_splice hfit, if_neg (by omega)]
  have htw : ∀ x, M.h + 2 + 2 * (M.k + 1) ≤ x → tw (splice D M.h (fxL ((M.k : Int) + 1) 2)) x = tw A x := by
    intro x hx
    unfold tw
    rw [hout x (by omega), hout (x + 1) (by omega)]
  have hslA : ∀ j, j < M.k → tw A (M.h + 2 + 2 * j) = (M.pl j : Int) := by
    intro j hj
    rw [hA, tw_lay_out hl (by omega), p.slots j hj]
  have hslB : ∀ j, j < M.k + 1 → j ≠ i → tw B (M.h + 2 + 2 * j) = if j < i then (M.pl j : Int) else (M.pl (j - 1) : Int) := by
    intro j hj hne
    by_cases h : j < i
    · rw [if_pos h, hBd, tw_out hfit (by omega), hslA j (by omega)]
    · rw [if_neg h, ← hslA (j - 1) (by omega), hBd]
      unfold tw
      rw [bt_splice hfit, bt_splice hfit, if_pos (by omega), if_pos (by omega), hS, bt_dt, bt_dt, if_pos (by omega), if_pos (by omega)]
      rw [show M.h + 2 + 2 * i + (M.h + 2 + 2 * j - (M.h + 2 + 2 * (i + 1))) = M.h + 2 + 2 * (j - 1) by omega, show M.h + 2 + 2 * i + (M.h + 2 + 2 * j + 1 - (M.h + 2 + 2 * (i + 1))) = M.h + 2 + 2 * (j - 1) + 1 by omega]
  refine ⟨⟨by rw [hZl, hDl]; rfl, hZb, fun x hx => ?_, ?_, fun j hj => ?_, fun j hj => ?_, fun j hj t ht => ?_, fun x h1 h2 h3 => ?_⟩, by rw [hZl, hDl, p.len], hZb⟩
  · have hx' : x < M.h := hx
    rw [hout x (.inl hx'), hA, bt_lay_out hl (by omega)]
    exact p.front x hx'
  · rw [hk]
    show tw _ M.h = _
    rw [tw_set (by omega) (by omega) hs2]
    omega
  · rw [hk] at hj
    rw [ins_pl g hi]
    show tw _ (M.h + 2 + 2 * j) = _
    rw [tw_set_out hs2 (by omega)]
    by_cases hji : j = i
    · subst hji
      rw [if_neg (by omega), if_pos rfl, hD]
      exact tw_set (by omega) (by omega) hs1
    · rw [hD, tw_set_out hs1 (by omega), hslB j hj hji]
      by_cases h : j < i
      · rw [if_pos h, if_pos h]
      · rw [if_neg h, if_neg h, if_neg hji]
  · rw [hk] at hj
    rw [ins_pl g hi, ins_cl hi]
    have old : ∀ a, a < M.k → tw (splice D M.h (fxL ((M.k : Int) + 1) 2)) (M.pl a) = ((M.cl a).length : Int) := by
      intro a ha
      have h1 := top_le g ha
      rw [htw _ (by omega), hA, tw_lay_out hl (by omega), p.lens a ha]
    by_cases h : j < i
    · rw [if_pos h, if_pos h]; exact old j (by omega)
    · rw [if_neg h, if_neg h]
      by_cases hji : j = i
      · rw [if_pos hji, if_pos hji, htw _ (by omega), hA, tw_lay hl (by omega)]
      · rw [if_neg hji, if_neg hji]; exact old (j - 1) (by omega)
  · rw [hk] at hj
    rw [ins_cl hi] at ht
    rw [ins_pl g hi, ins_cl hi]
    have old : ∀ a, a < M.k → ∀ t, t < (M.cl a).length → bt (splice D M.h (fxL ((M.k : Int) + 1) 2)) (M.pl a + 2 + t) = bt (M.cl a) t := by
      intro a ha t ht
      have h1 := top_le g ha
      rw [hout _ (by omega), hA, bt_lay_out hl (by omega), p.body a ha t ht]
    by_cases h : j < i
    · rw [if_pos h] at ht
      rw [if_pos h, if_pos h]; exact old j (by omega) t ht
    · rw [if_neg h] at ht
      rw [if_neg h, if_neg h]
      by_cases hji : j = i
      · rw [if_pos hji] at ht
        rw [if_pos hji, if_pos hji, hout _ (by omega), hA, bt_lay_in hl ht]
      · rw [if_neg hji] at ht
        rw [if_neg hji, if_neg hji]; exact old (j - 1) (by omega) t ht
  · have h1' : M.h + 2 + 2 * (M.k + 1) ≤ x := by have : (M.ins i q c).used (M.ins i q c).k ≤ x := h1; rw [hk] at this; exact this
    have h2' : x < M.n := h2
    have hi' := h3 i (by rw [hk]; omega)
    rw [ins_pl g hi, ins_cl hi, if_neg (by omega), if_pos rfl, if_neg (by omega), if_pos rfl] at hi'
    rw [hout x (.inr h1'), hA, bt_lay_out hl (by omega)]
    refine p.zero x (by rw [hus]; omega) h2' fun j hj => ?_
    by_cases h : j < i
    · have := h3 j (by rw [hk]; omega)
      rwa [ins_pl g hi, ins_cl hi, if_pos h, if_pos h] at this
    · have := h3 (j + 1) (by rw [hk]; omega)
      rwa [ins_pl g hi, ins_cl hi, if_neg (by omega), if_neg (by omega), if_neg (by omega), if_neg (by omega), Nat.add_sub_cancel] at this
end Go.Proofs.Ytoeaffmlolapnaa
