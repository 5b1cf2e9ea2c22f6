/- The plain law of the sum, as the walks have it (over Int). No program in sight. -/
import Derived.Test.YtlehpgokjppccaaCrcLaw
namespace Go.Proofs.Ytlehpgokjppccaa
open Go.RowKit

theorem add_xor (k x m : Nat) (h : x < 2 ^ k) : x ^^^ (2 ^ k * m) = x + 2 ^ k * m := by
  rw [Nat.xor_comm, Nat.add_comm, Nat.two_pow_add_eq_or_of_lt h m]
  apply Nat.eq_of_testBit_eq
  intro i
  rw [Nat.testBit_xor, Nat.testBit_or]
  by_cases hi : i < k
  · have : (2 ^ k * m).testBit i = false := by rw [Nat.testBit_two_pow_mul]; simp; omega
    simp [this]
  · have : x.testBit i = false := Nat.testBit_lt_two_pow (Nat.lt_of_lt_of_le h (Nat.pow_le_pow_right (by decide) (by omega)))
    simp [this]
theorem compl32 (c : Nat) (h : c < 4294967296) : 4294967295 ^^^ c = 4294967295 - c := by
  have e : 4294967295 - c = 2 ^ 32 - (c + 1) := by omega
  rw [e]
  apply Nat.eq_of_testBit_eq
  intro i
  rw [Nat.testBit_two_pow_sub_succ (by simpa using h), Nat.testBit_xor, show 4294967295 = 2 ^ 32 - 1 from rfl, Nat.testBit_two_pow_sub_one]
  by_cases hi : i < 32
  · simp [hi]
  · have : c.testBit i = false := Nat.testBit_lt_two_pow (Nat.lt_of_lt_of_le h (by
      rw [show 4294967296 = 2 ^ 32 from rfl]; exact Nat.pow_le_pow_right (by decide) (by omega)))
    simp [hi, this]

theorem rbI_nat (n : Nat) (h : n < 4294967296) : rbI (n : Int) = (rb n : Nat) := by
  unfold rbI rb
  by_cases h1 : n % 2 = 1
  · rw [if_pos (by omega), if_pos h1]
    have := u32_xor_nat (n / 2) 2197175160 (by omega) (by decide)
    simpa using this
  · rw [if_neg (by omega), if_neg h1]
    simp
theorem rbN_nat (k n : Nat) (h : n < 4294967296) : rbN k (n : Int) = (rbs k n : Nat) := by
  induction k with
  | zero => rfl
  | succ k ih => rw [rbN, ih, rbI_nat _ (rbs_lt k h)]; rfl
theorem tab_nat : ∀ r, r < 16 → bt tabI r = (rbs 4 r : Nat) := by decide
theorem rbs4 (c : Nat) : rbs 4 c = (c / 16) ^^^ rbs 4 (c % 16) := by
  have e : c = c % 16 ^^^ (2 ^ 4 * (c / 16)) := by
    rw [add_xor 4 (c % 16) (c / 16) (Nat.mod_lt _ (by decide))]
    omega
  conv => lhs; rw [e]
  rw [rbs_xor, rbs_pow, Nat.xor_comm]
theorem nibI_nat (c : Nat) (h : c < 4294967296) : nibI (c : Int) = (rbs 4 c : Nat) := by
  unfold nibI
  have h1 : bits .and .u32 (c : Int) 15 = ((c % 16 : Nat) : Int) := by
    have := u32_and_nat c 15 h (by decide)
    rw [show c &&& 15 = c % 16 from Nat.and_two_pow_sub_one_eq_mod c 4] at this
    exact this
  rw [h1, Int.toNat_natCast, tab_nat _ (Nat.mod_lt _ (by decide)), rbs4 c]
  have h2 : rbs 4 (c % 16) < 2 ^ 32 := rbs_lt 4 (by omega)
  have := u32_xor_nat (c / 16) (rbs 4 (c % 16)) (by omega) h2
  simpa using this
theorem rstI_nat (s x : Nat) (hs : s < 4294967296) (hx : x < 256) : rstI (s : Int) (x : Int) = (rbs 8 (s ^^^ x) : Nat) := by
  unfold rstI
  rw [u32_xor_nat s x hs (by omega), rbN_nat _ _ (Nat.xor_lt_two_pow (n := 32) hs (by omega))]
theorem stepI_nat (s x : Nat) (hs : s < 4294967296) (hx : x < 256) : stepI (s : Int) (x : Int) = (rbs 8 (s ^^^ x) : Nat) := by
  unfold stepI
  have h := Nat.xor_lt_two_pow (n := 32) hs (show x < 2 ^ 32 by omega)
  rw [u32_xor_nat s x hs (by omega), nibI_nat _ h, nibI_nat _ (rbs_lt 4 h), ← rbs_add 4 4]

/-- The bytes as natural numbers. -/
def toN (l : List Int) : List Nat := l.map Int.toNat
theorem toN_lt {l : List Int} (h : IsB l) : ∀ x ∈ toN l, x < 256 := by
  intro x hx
  obtain ⟨y, hy, rfl⟩ := List.mem_map.1 hx
  have := h y hy
  omega
theorem toN_inj {l m : List Int} (hl : IsB l) (hm : IsB m) (h : toN l = toN m) : l = m := by
  induction l generalizing m with
  | nil => cases m with | nil => rfl | cons _ _ => simp [toN] at h
  | cons x l ih =>
    cases m with
    | nil => simp [toN] at h
    | cons y m =>
      simp only [toN, List.map_cons, List.cons.injEq] at h
      have hx := hl x (List.mem_cons_self ..)
      have hy := hm y (List.mem_cons_self ..)
      rw [ih (fun z hz => hl z (List.mem_cons_of_mem _ hz)) (fun z hz => hm z (List.mem_cons_of_mem _ hz)) h.2]
      congr 1
      omega
theorem toN_append (l m : List Int) : toN (l ++ m) = toN l ++ toN m := by simp [toN]
theorem crcI_nat {l : List Int} (s : Nat) (hs : s < 4294967296) (h : IsB l) : crcI (s : Int) l = (st s (toN l) : Nat) := by
  induction l generalizing s with
  | nil => rfl
  | cons x l ih =>
    have hx := h x (List.mem_cons_self ..)
    obtain ⟨n, rfl⟩ := Int.eq_ofNat_of_zero_le hx.1
    have h1 := stepI_nat s n hs (by omega)
    show crcI (stepI s n) l = _
    rw [h1, ih _ (rbs_lt 8 (Nat.xor_lt_two_pow (n := 32) hs (by omega))) (fun y hy => h y (List.mem_cons_of_mem _ hy))]
    rfl
theorem rcrI_nat {l : List Int} (s : Nat) (hs : s < 4294967296) (h : IsB l) : rcrI (s : Int) l = (st s (toN l) : Nat) := by
  induction l generalizing s with
  | nil => rfl
  | cons x l ih =>
    have hx := h x (List.mem_cons_self ..)
    obtain ⟨n, rfl⟩ := Int.eq_ofNat_of_zero_le hx.1
    have h1 := rstI_nat s n hs (by omega)
    show rcrI (rstI s n) l = _
    rw [h1, ih _ (rbs_lt 8 (Nat.xor_lt_two_pow (n := 32) hs (by omega))) (fun y hy => h y (List.mem_cons_of_mem _ hy))]
    rfl
theorem sumI_nat {l : List Int} (h : IsB l) : sumI l = ((4294967295 ^^^ st 4294967295 (toN l) : Nat) : Int) := by
  unfold sumI
  have h1 := crcI_nat 4294967295 (by decide) h
  have h2 : st 4294967295 (toN l) < 2 ^ 32 := st_lt (by decide) (toN_lt h)
  have h3 := u32_xor_nat 4294967295 _ (by decide) h2
  rw [show (4294967295 : Int) = ((4294967295 : Nat) : Int) from rfl, h1]
  exact h3
/-- The table's sum is the sum bit by bit. -/
theorem sum_ref {l : List Int} (h : IsB l) : 4294967295 - rcrI 4294967295 l = sumI l := by
  have h1 := rcrI_nat 4294967295 (by decide) h
  have h2 : st 4294967295 (toN l) < 2 ^ 32 := st_lt (by decide) (toN_lt h)
  rw [sumI_nat h, compl32 _ h2]
  rw [show ((4294967295 : Nat) : Int) = 4294967295 from rfl] at h1
  rw [h1]
  omega

/-- The four bytes of a sum. -/
def foot4 (s : Int) : List Int := [s % 256, s / 256 % 256, s / 65536 % 256, s / 16777216]
theorem le_foot (s : Int) (h0 : 0 ≤ s) (h1 : s ≤ 4294967295) : le s 4 = foot4 s := by
  simp [le, foot4]
  omega
theorem foot4_isB (s : Int) (h0 : 0 ≤ s) (h1 : s ≤ 4294967295) : IsB (foot4 s) := by
  intro x hx
  simp [foot4] at hx
  omega
theorem foot4_wd (n : Nat) (h : n < 4294967296) : wd (toN (foot4 n)) = n := by
  have e : toN (foot4 n) = [n % 256, n / 256 % 256, n / 65536 % 256, n / 16777216] := by
    simp [toN, foot4]
    omega
  rw [e, wd_cons (by omega), wd_cons (by omega), wd_cons (by omega), wd_cons (by omega), wd]
  omega
theorem IsB.append {l m : List Int} (hl : IsB l) (hm : IsB m) : IsB (l ++ m) := by
  intro x hx
  rcases List.mem_append.1 hx with h | h
  · exact hl x h
  · exact hm x h
theorem IsB.take {l : List Int} (h : IsB l) (n : Nat) : IsB (l.take n) := fun x hx => h x (List.mem_of_mem_take hx)
theorem IsB.drop {l : List Int} (h : IsB l) (n : Nat) : IsB (l.drop n) := fun x hx => h x (List.mem_of_mem_drop hx)

/-- What is sealed is just what leaves this state. -/
theorem sealed_iff {l f : List Int} (hl : IsB l) (hf : IsB f) (h4 : f.length = 4) : foot4 (sumI l) = f ↔ st 4294967295 (toN (l ++ f)) = rbs 32 4294967295 := by
  have hlt : st 4294967295 (toN l) < 2 ^ 32 := st_lt (by decide) (toN_lt hl)
  have hx : 4294967295 ^^^ st 4294967295 (toN l) < 2 ^ 32 := Nat.xor_lt_two_pow (by decide) hlt
  have hlen : (toN f).length = 4 := by simp [toN, h4]
  have hw : wd (toN f) < 2 ^ 32 := Nat.lt_of_lt_of_le (wd_lt (toN_lt hf)) (by rw [hlen]; decide)
  have key : foot4 (sumI l) = f ↔ wd (toN f) = 4294967295 ^^^ st 4294967295 (toN l) := by
    rw [sumI_nat hl]
    constructor
    · rintro rfl
      exact foot4_wd _ hx
    · intro h
      refine toN_inj (foot4_isB _ (by omega) (by omega)) hf (wd_inj (toN_lt (foot4_isB _ (by omega) (by omega))) (toN_lt hf) (by simp [toN, foot4, h4]) ?_)
      rw [foot4_wd _ hx, h]
  rw [key, toN_append, st_append, st_wd _ (toN f), hlen]
  constructor
  · intro h
    rw [h, ← Nat.xor_assoc, Nat.xor_comm (st 4294967295 (toN l)), Nat.xor_assoc, Nat.xor_self, Nat.xor_zero]
  · intro h
    have h1 := rbs_inj 32 (Nat.xor_lt_two_pow hlt hw) (by decide) h
    have h2 := congrArg (st 4294967295 (toN l) ^^^ ·) h1
    simp only [← Nat.xor_assoc, Nat.xor_self, Nat.zero_xor] at h2
    rw [h2, Nat.xor_comm]

/-! ### bytes turned -/
theorem turn1_take {l : List Int} {i : Nat} (b : Int) {n : Nat} (h : n ≤ i) : (turn1 l i b).take n = l.take n := by
  unfold turn1
  split
  · exact List.take_set_of_le h
  · rfl
theorem turn1_drop {l : List Int} {i : Nat} (b : Int) {n : Nat} (h : i < n) : (turn1 l i b).drop n = l.drop n := by
  unfold turn1
  split
  · exact List.drop_set_of_lt h
  · rfl
theorem turnN_take (at_ : Nat) (l : List Int) (b : Int) (k : Nat) : (turnN at_ l b k).1.take at_ = l.take at_ := by
  induction k with
  | zero => rfl
  | succ k ih => rw [turnN, turn1_take _ (by omega), ih]
theorem turnN_drop (at_ : Nat) (l : List Int) (b : Int) (k : Nat) : (turnN at_ l b k).1.drop (at_ + k) = l.drop (at_ + k) := by
  induction k with
  | zero => rfl
  | succ k ih =>
    rw [turnN, turn1_drop _ (by omega)]
    have := congrArg (List.drop 1) ih
    simpa [List.drop_drop, Nat.add_assoc] using this
theorem split3 (l : List Int) (a : Nat) : l = l.take a ++ (l.drop a).take 4 ++ l.drop (a + 4) := by
  rw [List.append_assoc]
  conv => lhs; rw [← List.take_append_drop a l]
  congr 1
  rw [← List.drop_drop, List.take_append_drop]
/-- Bytes turned within four have another state, unless none was turned. -/
theorem turned_st {l : List Int} (h : IsB l) (at_ : Nat) (b : Int) (he : st 4294967295 (toN (turnN at_ l b 4).1) = st 4294967295 (toN l)) : (turnN at_ l b 4).1 = l := by
  have hB := turnN_isB h at_ b 4
  have hl := split3 l at_
  have hc := split3 (turnN at_ l b 4).1 at_
  have hlen := turnN_length at_ l b 4
  rw [turnN_take, turnN_drop] at hc
  have hlN := congrArg toN hl
  have hcN := congrArg toN hc
  rw [toN_append, toN_append] at hlN hcN
  rw [hcN, hlN] at he
  have e := st_four (s := 4294967295) (by decide) (toN_lt (h.take at_)) (toN_lt ((hB.drop at_).take 4)) (toN_lt ((h.drop at_).take 4)) (toN_lt (h.drop (at_ + 4))) (by simp [toN, hlen]) (by simp [toN]; omega) he
  have e2 := toN_inj ((hB.drop _).take _) ((h.drop _).take _) e
  rw [hc, e2, ← hl]
end Go.Proofs.Ytlehpgokjppccaa
