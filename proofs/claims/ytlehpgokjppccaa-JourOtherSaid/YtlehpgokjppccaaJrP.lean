/- Plain: a journal that was written, cut, turned, of another nonce. -/
import Derived.Test.YtlehpgokjppccaaJrI
namespace Go.Proofs.Ytlehpgokjppccaa
open Go.RowKit
set_option maxRecDepth 100000

theorem sum_four {l m : List Int} (hl : IsB l) (hm : IsB m) (hlen : l.length = m.length) (a : Nat) (ht : l.take a = m.take a) (hd : l.drop (a + 4) = m.drop (a + 4)) (h : sumI l = sumI m) : l = m := by
  have he := sumI_st hl hm h
  have sl := split3 l a
  have sm := split3 m a
  rw [← ht, ← hd] at sm
  have slN := congrArg toN sl
  have smN := congrArg toN sm
  rw [toN_append, toN_append] at slN smN
  rw [slN, smN] at he
  have e := st_four (s := 4294967295) (by decide) (toN_lt (hl.take a)) (toN_lt ((hl.drop a).take 4)) (toN_lt ((hm.drop a).take 4)) (toN_lt (hl.drop (a + 4))) (by simp [toN, hlen]) (by simp [toN]; omega) he
  have e2 := toN_inj ((hl.drop _).take _) ((hm.drop _).take _) e
  rw [sl, e2, ← sm]

def okF (s : Nat) (f : Fr) : Prop := 1 ≤ f.pg ∧ f.pg ≤ 1048576 ∧ f.cm = 0 ∧ f.b.length = s ∧ IsB f.b
def entsL (k : Int) : List Fr → List Int
  | [] => []
  | f :: F => entH k f.pg f.b ++ entsL k F
theorem entsL_append (k : Int) (F G : List Fr) : entsL k (F ++ G) = entsL k F ++ entsL k G := by
  induction F with
  | nil => rfl
  | cons f F ih => simp [entsL, ih]
theorem entsL_isB {k : Int} {s : Nat} {F : List Fr} (h : ∀ f ∈ F, okF s f) : IsB (entsL k F) := by
  induction F with
  | nil => intro x hx; simp [entsL] at hx
  | cons f F ih => exact isB_append (entH_isB (h f (List.mem_cons_self ..)).2.2.2.2) (ih fun g hg => h g (List.mem_cons_of_mem _ hg))
theorem entsL_length {k : Int} {s : Nat} {F : List Fr} (h : ∀ f ∈ F, okF s f) : (entsL k F).length = F.length * (s + 8) := by
  induction F with
  | nil => simp [entsL]
  | cons f F ih =>
    rw [entsL, List.length_append, ih fun g hg => h g (List.mem_cons_of_mem _ hg), entH_length, (h f (List.mem_cons_self ..)).2.2.2.1, List.length_cons, Nat.add_mul]
    omega
theorem ent_form (k pg : Int) (l t : List Int) : entH k pg l ++ t = fxL pg 4 ++ (l ++ (fxL (sumI (fxL k 8 ++ entB pg l)) 4 ++ t)) := by simp [entH, entB]
theorem ent_form2 (k pg : Int) (l t : List Int) : entH k pg l ++ t = entB pg l ++ (fxL (sumI (fxL k 8 ++ entB pg l)) 4 ++ t) := by simp [entH]
theorem ok_ent (k : Int) {s : Nat} {f : Fr} (h : okF s f) (t : List Int) : okFr k s (entH k f.pg f.b ++ t) := by
  obtain ⟨h1, h2, h3, h4, h5⟩ := h
  have e0 : fourI (entH k f.pg f.b ++ t) 0 = f.pg := by rw [ent_form, four_here _ _ (by omega)]
  have hl : (entB f.pg f.b).length = 4 + s := by rw [entB_length, h4]
  refine ⟨by rw [e0]; exact h1, by rw [e0]; exact h2, ?_⟩
  rw [ent_form2, List.take_left' hl, List.drop_left' hl, List.take_left' (fxL_length _ _)]
theorem frs_ent (k : Int) {s : Nat} {f : Fr} (h : okF s f) (t : List Int) : frsL k s (entH k f.pg f.b ++ t) = f :: frsL k s t := by
  have hl : (entH k f.pg f.b).length = s + 8 := by rw [entH_length, h.2.2.2.1]; omega
  rw [frs_step (by rw [List.length_append, hl]; omega) (ok_ent k h t), List.drop_left' hl]
  obtain ⟨h1, h2, h3, h4, h5⟩ := h
  have e0 : fourI (entH k f.pg f.b ++ t) 0 = f.pg := by rw [ent_form, four_here _ _ (by omega)]
  rw [e0, ent_form, List.drop_left' (fxL_length _ _), List.take_left' h4]
  obtain ⟨a, b, c⟩ := f
  simp only at h3
  rw [h3]
theorem frs_ents (k : Int) {s : Nat} {F : List Fr} (h : ∀ f ∈ F, okF s f) (t : List Int) : frsL k s (entsL k F ++ t) = F ++ frsL k s t := by
  induction F with
  | nil => rfl
  | cons f F ih =>
    rw [entsL, List.append_assoc, frs_ent k (h f (List.mem_cons_self ..)), ih fun g hg => h g (List.mem_cons_of_mem _ hg)]
    rfl
theorem frs_all (k : Int) {s : Nat} {F : List Fr} (h : ∀ f ∈ F, okF s f) : frsL k s (entsL k F) = F := by
  have e0 : frsL k s [] = [] := frs_end (by simp only [List.length_nil]; omega)
  have := frs_ents k h []
  rwa [List.append_nil, e0, List.append_nil] at this
theorem frs_cut (k : Int) {s : Nat} {F : List Fr} (h : ∀ f ∈ F, okF s f) (x : Nat) : frsL k s ((entsL k F).take x) = F.take (x / (s + 8)) := by
  have hx : x = x / (s + 8) * (s + 8) + x % (s + 8) := by rw [Nat.mul_comm]; exact (Nat.div_add_mod x (s + 8)).symm
  have hr : x % (s + 8) < s + 8 := Nat.mod_lt _ (by omega)
  by_cases hq : x / (s + 8) ≤ F.length
  · have hP : (entsL k (F.take (x / (s + 8)))).length = x / (s + 8) * (s + 8) := by
      rw [entsL_length (s := s) fun f hf => h f (List.mem_of_mem_take hf), List.length_take, Nat.min_eq_left hq]
    have e : (entsL k F).take x = entsL k (F.take (x / (s + 8))) ++ (entsL k (F.drop (x / (s + 8)))).take (x % (s + 8)) := by
      conv => lhs; rw [← List.take_append_drop (x / (s + 8)) F, entsL_append]
      rw [List.take_append, hP, List.take_of_length_le (by rw [hP]; omega), show x - x / (s + 8) * (s + 8) = x % (s + 8) by omega]
    rw [e, frs_ents k (fun f hf => h f (List.mem_of_mem_take hf)), frs_end (by rw [List.length_take]; omega), List.append_nil]
  · have hl := entsL_length (k := k) h
    have hle : F.length * (s + 8) ≤ x / (s + 8) * (s + 8) := Nat.mul_le_mul_right _ (by omega)
    rw [List.take_of_length_le (by omega), List.take_of_length_le (by omega), frs_all k h]

def jourL (s p k : Int) (F : List Fr) : List Int := startH s p k ++ entsL k F
theorem start_form (s p k : Int) (t : List Int) : startH s p k ++ t = jsign ++ (fxL s 4 ++ (fxL p 4 ++ (fxL k 8 ++ (fxL (sumI (startB s p k)) 4 ++ t)))) := by simp [startH, startB]
theorem eight_skip (x y : List Int) (p : Nat) (h : x.length ≤ p) : eightI (x ++ y) p = eightI y (p - x.length) := by
  rw [eightI, eightI, List.drop_append, List.drop_eq_nil_of_le h, List.nil_append]
theorem pow8 : (256 : Int) ^ 8 = 18446744073709551616 := by decide
theorem beI_fx8 {k : Int} (h : 0 ≤ k ∧ k ≤ 18446744073709551615) : beI (fxL k 8) = k := by rw [beI_fxq, pow8]; omega
theorem eight_here (k : Int) (y : List Int) (h : 0 ≤ k ∧ k ≤ 18446744073709551615) : eightI (fxL k 8 ++ y) 0 = k := by
  rw [eightI, List.drop_zero, List.take_left' (fxL_length k 8), beI_fx8 h]
theorem jsign_len : jsign.length = 8 := rfl
theorem scan_jour {s p k : Int} (ho : okStart s p) (hk : 0 ≤ k ∧ k ≤ 18446744073709551615) (t : List Int) : scanL (startH s p k ++ t) = ⟨s, p, k, frsL k s.toNat t, 0⟩ := by
  have hs : 0 ≤ s ∧ s ≤ 4096 := by have := ho.1; unfold isSize at this; omega
  have hp : 0 ≤ p ∧ p ≤ 1048576 := ⟨ho.2.1, ho.2.2.1⟩
  have e1 : fourI (startH s p k ++ t) 8 = s := by
    rw [start_form, four_skip _ _ _ (by rw [jsign_len]; decide), jsign_len, four_here _ _ (by omega)]
  have e2 : fourI (startH s p k ++ t) 12 = p := by
    rw [start_form, four_skip _ _ _ (by rw [jsign_len]; decide), jsign_len, four_skip _ _ _ (by rw [fxL_length]; decide), fxL_length, four_here _ _ (by omega)]
  have e3 : eightI (startH s p k ++ t) 16 = k := by
    rw [start_form, eight_skip _ _ _ (by rw [jsign_len]; decide), jsign_len, eight_skip _ _ _ (by rw [fxL_length]; decide), fxL_length, eight_skip _ _ _ (by rw [fxL_length]; decide), fxL_length, eight_here _ _ hk]
  have e4 : (startH s p k ++ t).take 8 = jsign := by rw [start_form]; exact List.take_left' rfl
  have e5 : (startH s p k ++ t).take 28 = startH s p k := List.take_left' (startH_length _ _ _)
  have e6 : (startH s p k ++ t).drop 28 = t := List.drop_left' (startH_length _ _ _)
  have hh : hdOk (startH s p k ++ t) := by unfold hdOk; rw [e1, e2, e3, e5]; exact ⟨ho, rfl⟩
  rw [scanL, if_neg (by rw [List.length_append, startH_length]; omega), if_neg (by rw [e4]; simp), if_pos hh, e1, e2, e3, e6]
theorem jour_cut {s p k : Int} (ho : okStart s p) (hk : 0 ≤ k ∧ k ≤ 18446744073709551615) {F : List Fr} (h : ∀ f ∈ F, okF s.toNat f) (x : Nat) :
    scanL ((jourL s p k F).take (28 + x)) = ⟨s, p, k, F.take (x / (s.toNat + 8)), 0⟩ := by
  have e : (jourL s p k F).take (28 + x) = startH s p k ++ (entsL k F).take x := by
    rw [jourL, List.take_append, startH_length, List.take_of_length_le (by rw [startH_length]; omega), show 28 + x - 28 = x by omega]
  rw [e, scan_jour ho hk, frs_cut k h]

/-- An entry that was turned is not told, nor is one behind it. -/
theorem ent_turned {k : Int} {s : Nat} {u v : List Int} (hu : IsB u) (hv : IsB v) (hlen : u.length = v.length) (hok : okFr k s v) {q : Nat} (hq : q ≤ s ∨ q = s + 4)
    (ht : u.take q = v.take q) (hd : u.drop (q + 4) = v.drop (q + 4)) (h : okFr k s u) : u = v := by
  have h1 := h.2.2
  have h2 := hok.2.2
  rcases hq with hq | rfl
  · have hdd : u.drop (4 + s) = v.drop (4 + s) := by
      have := congrArg (List.drop (s - q)) hd
      rwa [List.drop_drop, List.drop_drop, show q + 4 + (s - q) = 4 + s by omega] at this
    rw [hdd, ← h2] at h1
    have hsum := fx4_inj (sumI_bd _) (sumI_bd _) h1
    have e : fxL k 8 ++ u.take (4 + s) = fxL k 8 ++ v.take (4 + s) := by
      refine sum_four (isB_append (fxL_isB _ _) (hu.take _)) (isB_append (fxL_isB _ _) (hv.take _)) (by simp [hlen]) (8 + q) ?_ ?_ hsum
      · rw [List.take_append, List.take_append, fxL_length, show 8 + q - 8 = q by omega, List.take_take, List.take_take, Nat.min_eq_left (by omega), ht]
      · rw [List.drop_append, List.drop_append, fxL_length, show 8 + q + 4 - 8 = q + 4 by omega, List.drop_take, List.drop_take, hd]
    rw [← List.take_append_drop (4 + s) u, List.append_cancel_left e, hdd, List.take_append_drop]
  · have e1 : u.take (4 + s) = v.take (4 + s) := by rw [Nat.add_comm 4 s]; exact ht
    rw [e1, h2] at h1
    have hdd : (u.drop (4 + s)).drop 4 = (v.drop (4 + s)).drop 4 := by
      rw [List.drop_drop, List.drop_drop, Nat.add_comm 4 s]
      exact hd
    rw [← List.take_append_drop (4 + s) u, ← List.take_append_drop 4 (u.drop (4 + s)), e1, ← h1, hdd, List.take_append_drop, List.take_append_drop]
theorem ents_turned {k : Int} {s : Nat} {F : List Fr} (h : ∀ f ∈ F, okF s f) {i : Nat} (hi : i < F.length) {q : Nat} (hq : q ≤ s ∨ q = s + 4) {c : List Int} (hc : IsB c) (hlen : c.length = (entsL k F).length)
    (ht : c.take (i * (s + 8) + q) = (entsL k F).take (i * (s + 8) + q)) (hd : c.drop (i * (s + 8) + q + 4) = (entsL k F).drop (i * (s + 8) + q + 4)) (hne : c ≠ entsL k F) : frsL k s c = F.take i := by
  have hB := entsL_isB (k := k) h
  have hl := entsL_length (k := k) h
  have hP : (entsL k (F.take i)).length = i * (s + 8) := by
    rw [entsL_length (s := s) fun f hf => h f (List.mem_of_mem_take hf), List.length_take, Nat.min_eq_left (by omega)]
  have hsp : entsL k F = entsL k (F.take i) ++ entsL k (F.drop i) := by rw [← entsL_append, List.take_append_drop]
  have hv : (entsL k F).drop (i * (s + 8)) = entsL k (F.drop i) := by rw [hsp, List.drop_left' hP]
  have hP2 : c.take (i * (s + 8)) = entsL k (F.take i) := by
    have := congrArg (List.take (i * (s + 8))) ht
    rw [List.take_take, List.take_take, Nat.min_eq_left (by omega), hsp, List.take_left' hP] at this
    exact this
  have hmul : (i + 1) * (s + 8) ≤ F.length * (s + 8) := Nat.mul_le_mul_right _ hi
  rw [Nat.add_mul] at hmul
  have hcs : c = entsL k (F.take i) ++ c.drop (i * (s + 8)) := by rw [← hP2, List.take_append_drop]
  have hf : F.drop i = F[i] :: F.drop (i + 1) := List.drop_eq_getElem_cons hi
  have hok : okFr k s (entsL k (F.drop i)) := by rw [hf, entsL]; exact ok_ent k (h _ (List.getElem_mem hi)) _
  have hnot : ¬ okFr k s (c.drop (i * (s + 8))) := by
    intro hx
    have := ent_turned (q := q) (hc.drop _) (hB.drop (i * (s + 8))) (by rw [List.length_drop, List.length_drop, hlen]) (by rw [hv]; exact hok) hq ?_ ?_ hx
    · exact hne (by rw [hcs, this, hv, ← hsp])
    · have := congrArg (List.drop (i * (s + 8))) ht
      rw [List.drop_take, List.drop_take, show i * (s + 8) + q - i * (s + 8) = q by omega] at this
      exact this
    · rw [List.drop_drop, List.drop_drop, ← Nat.add_assoc]; exact hd
  rw [hcs, frs_ents k (fun f hf => h f (List.mem_of_mem_take hf)), frs_stop hnot, List.append_nil]
theorem jour_turned {s p k : Int} (ho : okStart s p) (hk : 0 ≤ k ∧ k ≤ 18446744073709551615) {F : List Fr} (h : ∀ f ∈ F, okF s.toNat f) {i : Nat} (hi : i < F.length) {q : Nat} (hq : q ≤ s.toNat ∨ q = s.toNat + 4) (b : Int) :
    scanL (turnN (28 + (i * (s.toNat + 8) + q)) (jourL s p k F) b 4).1 = ⟨s, p, k, if jourL s p k F = (turnN (28 + (i * (s.toNat + 8) + q)) (jourL s p k F) b 4).1 then F else F.take i, 0⟩ := by
  have hB : IsB (jourL s p k F) := isB_append (startH_isB _ _ _) (entsL_isB h)
  obtain ⟨C, hC⟩ : ∃ C, C = (turnN (28 + (i * (s.toNat + 8) + q)) (jourL s p k F) b 4).1 := ⟨_, rfl⟩
  have hCB : IsB C := by rw [hC]; exact turnN_isB hB _ _ _
  have hCl : C.length = (jourL s p k F).length := by rw [hC, turnN_length]
  have ht := turnN_take (28 + (i * (s.toNat + 8) + q)) (jourL s p k F) b 4
  have hd := turnN_drop (28 + (i * (s.toNat + 8) + q)) (jourL s p k F) b 4
  rw [← hC] at ht hd ⊢
  have e28 : (jourL s p k F).drop 28 = entsL k F := by rw [jourL, List.drop_left' (startH_length _ _ _)]
  have hS : C.take 28 = startH s p k := by
    have := congrArg (List.take 28) ht
    rw [List.take_take, List.take_take, Nat.min_eq_left (by omega), jourL, List.take_left' (startH_length _ _ _)] at this
    exact this
  have hcs : C = startH s p k ++ C.drop 28 := by rw [← hS, List.take_append_drop]
  by_cases he : jourL s p k F = C
  · rw [if_pos he, ← he, jourL, scan_jour ho hk, frs_all k h]
  · rw [if_neg he, hcs, scan_jour ho hk, ents_turned (k := k) h hi hq (hCB.drop 28) (by rw [List.length_drop, hCl, ← e28, List.length_drop]) ?_ ?_ ?_]
    · have := congrArg (List.drop 28) ht
      rw [List.drop_take, List.drop_take, show 28 + (i * (s.toNat + 8) + q) - 28 = i * (s.toNat + 8) + q by omega, e28] at this
      exact this
    · rw [← e28, List.drop_drop, List.drop_drop, show 28 + (i * (s.toNat + 8) + q + 4) = 28 + (i * (s.toNat + 8) + q) + 4 by omega]
      exact hd
    · intro e
      exact he (by rw [hcs, e]; rfl)
/-- Entries of another nonce are not told. -/
theorem ents_other {k k' : Int} {s : Nat} {F : List Fr} (h : ∀ f ∈ F, okF s f) {a : Nat} (ht : (fxL k' 8).take a = (fxL k 8).take a) (hd : (fxL k' 8).drop (a + 4) = (fxL k 8).drop (a + 4)) (hk : 0 ≤ k ∧ k ≤ 18446744073709551615) (hk' : 0 ≤ k' ∧ k' ≤ 18446744073709551615) (hne : k' ≠ k) : frsL k' s (entsL k F) = [] := by
  cases F with
  | nil => exact frs_end (by simp only [entsL, List.length_nil]; omega)
  | cons f F =>
    have hv := entsL_isB (k := k) h
    have hok : okFr k s (entsL k (f :: F)) := ok_ent k (h f (List.mem_cons_self ..)) _
    refine frs_stop fun hx => hne ?_
    have h1 := hx.2.2
    rw [← hok.2.2] at h1
    have hsum := fx4_inj (sumI_bd _) (sumI_bd _) h1
    have e := sum_four (isB_append (fxL_isB _ _) (hv.take _)) (isB_append (fxL_isB _ _) (hv.take _)) (by simp [fxL_length]) a (by
        rw [List.take_append, List.take_append, ht, fxL_length, fxL_length]) (by
        rw [List.drop_append, List.drop_append, hd, fxL_length, fxL_length]) hsum
    have e2 := List.append_cancel_right e
    rw [← beI_fx8 hk', e2, beI_fx8 hk]
theorem beI_inj {n : Nat} : ∀ {l m : List Int}, IsB l → IsB m → l.length = n → m.length = n → beI l = beI m → l = m := by
  induction n with
  | zero => intro l m _ _ h1 h2 _; rw [List.eq_nil_of_length_eq_zero h1, List.eq_nil_of_length_eq_zero h2]
  | succ n ih =>
    intro l m hl hm h1 h2 he
    obtain ⟨l', x, rfl⟩ : ∃ l' x, l = l' ++ [x] := ⟨l.dropLast, l.getLast (by intro e; simp [e] at h1), (List.dropLast_concat_getLast _).symm⟩
    obtain ⟨m', y, rfl⟩ : ∃ m' y, m = m' ++ [y] := ⟨m.dropLast, m.getLast (by intro e; simp [e] at h2), (List.dropLast_concat_getLast _).symm⟩
    rw [beI_snoc, beI_snoc] at he
    have hx := hl x (by simp)
    have hy := hm y (by simp)
    obtain rfl : x = y := by omega
    rw [ih (fun z hz => hl z (by simp [hz])) (fun z hz => hm z (by simp [hz])) (by simpa using h1) (by simpa using h2) (show beI l' = beI m' by omega)]
theorem fx_be {l : List Int} (h : IsB l) {k : Nat} (hk : l.length = k) : fxL (beI l) k = l := by
  have hb := beI_lt h k (by omega)
  exact beI_inj (fxL_isB _ _) h (fxL_length _ _) hk (by rw [beI_fxq, Int.emod_eq_of_lt hb.1 hb.2])
theorem ent_iff {k : Int} {s : Nat} {t : List Int} (hB : IsB t) (hs : isSize (s : Int)) (hl : ¬ t.length < s + 8) :
    (okEnt (fourI t 0) 0 s ∧ entH k (fourI t 0) ((t.drop 4).take s) = t.take (s + 8)) ↔ okFr k s t := by
  have e0 : fxL (fourI t 0) 4 = t.take 4 := by
    rw [fourI, List.drop_zero]
    exact fx_be (hB.take 4) (by rw [List.length_take]; omega)
  have e1 : entB (fourI t 0) ((t.drop 4).take s) = t.take (4 + s) := by rw [entB, e0, List.take_add]
  have e2 : t.take (s + 8) = t.take (4 + s) ++ (t.drop (4 + s)).take 4 := by rw [show s + 8 = (4 + s) + 4 by omega, List.take_add]
  rw [entH, e1, e2]
  unfold okEnt okFr
  constructor
  · rintro ⟨⟨h1, h2, _, _⟩, h3⟩
    exact ⟨h1, h2, List.append_cancel_left h3⟩
  · rintro ⟨h1, h2, h3⟩
    exact ⟨⟨h1, h2, rfl, hs⟩, by rw [h3]⟩
end Go.Proofs.Ytlehpgokjppccaa
