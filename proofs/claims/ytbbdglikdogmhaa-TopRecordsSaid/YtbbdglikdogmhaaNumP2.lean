/- Plain functions of layer 1: the reading of a varint. No program in sight. -/
import Derived.Test.YtbbdglikdogmhaaNumP
namespace Go.Proofs.Ytbbdglikdogmhaa
open Go.RowKit

/-- The bytes of one number (i of them are read): an error, or the bytes. -/
def grp (i : Nat) : List Int → Int × List Int
  | [] => (6, [])
  | x :: s => if i = 9 ∧ 1 < x then (9, []) else if 128 ≤ x then ((grp (i + 1) s).1, x :: (grp (i + 1) s).2) else (0, [x])
/-- What groups come to. -/
def valI : List Int → Int
  | [] => 0
  | x :: s => x % 128 + 128 * valI s
/-- The number of a number whose sign stands in its lowest bit. -/
def zag (z : Int) : Int := if z % 2 = 1 then -(z / 2) - 1 else z / 2
/-- What Unvarint gives. -/
def unvG (at_ : Int) (g : Int × List Int) : Int × Int × Int :=
  if g.1 ≠ 0 then (0, 0, g.1) else if 1 < g.2.length ∧ bt g.2 (g.2.length - 1) = 0 then (0, 0, 8) else (zag (valI g.2), at_ + g.2.length, 0)
def unvL (l : List Int) (at_ : Int) : Int × Int × Int := if at_ < 0 then (0, 0, 1) else unvG at_ (grp 0 (l.drop at_.toNat))

/-- The first j bytes are all followed by another one. -/
def Pre (s : List Int) (j : Nat) : Prop := j ≤ 9 ∧ j ≤ s.length ∧ ∀ q, q < j → 128 ≤ bt s q
theorem Pre.zero (s : List Int) : Pre s 0 := ⟨by omega, by omega, fun q hq => absurd hq (by omega)⟩
theorem bt_cons_succ (x : Int) (s : List Int) (q : Nat) : bt (x :: s) (q + 1) = bt s q := by simp [bt]
theorem bt_cons_zero (x : Int) (s : List Int) : bt (x :: s) 0 = x := by simp [bt]
theorem grp_pre (s : List Int) : ∀ (i j : Nat), i + j ≤ 9 → j ≤ s.length → (∀ q, q < j → 128 ≤ bt s q) →
    grp i s = ((grp (i + j) (s.drop j)).1, s.take j ++ (grp (i + j) (s.drop j)).2) := by
  induction s with
  | nil => intro i j h1 h2 h3; simp at h2; subst h2; simp
  | cons x s ih =>
    intro i j h1 h2 h3
    cases j with
    | zero => simp
    | succ j =>
      have hx := h3 0 (by omega)
      rw [bt_cons_zero] at hx
      have := ih (i + 1) j (by omega) (by simpa using h2) (fun q hq => by have := h3 (q + 1) (by omega); rwa [bt_cons_succ] at this)
      rw [grp, if_neg (by omega), if_pos hx, this]
      simp [Nat.add_comm, Nat.add_left_comm]
theorem drop_cons {s : List Int} {j : Nat} (h : j < s.length) : s.drop j = bt s j :: s.drop (j + 1) := by
  rw [bt_lt h]; exact List.drop_eq_getElem_cons h
theorem unv_short {s : List Int} {j : Nat} (h : Pre s j) (hj : s.length ≤ j) (at_ : Int) : unvG at_ (grp 0 s) = (0, 0, 6) := by
  rw [grp_pre s 0 j (by have := h.1; omega) h.2.1 h.2.2, List.drop_eq_nil_of_le hj]
  rfl
theorem unv_over {s : List Int} {j : Nat} (h : Pre s j) (hj : j < s.length) (h9 : j = 9) (hx : 1 < bt s j) (at_ : Int) : unvG at_ (grp 0 s) = (0, 0, 9) := by
  rw [grp_pre s 0 j (by have := h.1; omega) h.2.1 h.2.2, drop_cons hj, grp, if_pos ⟨by omega, hx⟩]
  rfl
theorem Pre.succ {s : List Int} {j : Nat} (h : Pre s j) (hj : j < s.length) (h9 : ¬ (j = 9 ∧ 1 < bt s j)) (hx : 128 ≤ bt s j) : Pre s (j + 1) := by
  refine ⟨by have := h.1; omega, by omega, fun q hq => ?_⟩
  by_cases e : q = j
  · subst e; exact hx
  · exact h.2.2 q (by omega)
theorem grp_end {s : List Int} {j : Nat} (h : Pre s j) (hj : j < s.length) (h9 : ¬ (j = 9 ∧ 1 < bt s j)) (hx : ¬ 128 ≤ bt s j) : grp 0 s = (0, s.take (j + 1)) := by
  rw [grp_pre s 0 j (by have := h.1; omega) h.2.1 h.2.2, drop_cons hj, grp, if_neg (by simpa using h9), if_neg hx, take_succ_bt hj]
theorem unv_form {s : List Int} {j : Nat} (h : Pre s j) (hj : j < s.length) (h9 : ¬ (j = 9 ∧ 1 < bt s j)) (hx : ¬ 128 ≤ bt s j) (h0 : 0 < j) (hz : bt s j = 0) (at_ : Int) : unvG at_ (grp 0 s) = (0, 0, 8) := by
  have e : (s.take (j + 1)).length = j + 1 := by simp; omega
  rw [grp_end h hj h9 hx, unvG, if_neg (by simp), if_pos]
  refine ⟨by show 1 < (s.take (j + 1)).length; omega, ?_⟩
  show bt (s.take (j + 1)) ((s.take (j + 1)).length - 1) = 0
  rw [e, ← hz, take_succ_bt hj]
  simp [bt]
  rw [List.getElem?_append_right (by simp; omega)]
  simp [Nat.min_eq_left (Nat.le_of_lt hj)]
theorem unv_ok {s : List Int} {j : Nat} (h : Pre s j) (hj : j < s.length) (h9 : ¬ (j = 9 ∧ 1 < bt s j)) (hx : ¬ 128 ≤ bt s j) (h0 : ¬ (0 < j ∧ bt s j = 0)) (at_ : Int) :
    unvG at_ (grp 0 s) = (zag (valI (s.take (j + 1))), at_ + j + 1, 0) := by
  have e : (s.take (j + 1)).length = j + 1 := by simp; omega
  have e2 : bt (s.take (j + 1)) j = bt s j := by simp [bt]
  rw [grp_end h hj h9 hx, unvG, if_neg (by simp), if_neg]
  · show (zag (valI (s.take (j + 1))), at_ + ((s.take (j + 1)).length : Int), (0 : Int)) = _
    rw [e]
    congr 2
    omega
  · show ¬ (1 < (s.take (j + 1)).length ∧ bt (s.take (j + 1)) ((s.take (j + 1)).length - 1) = 0)
    rw [e, Nat.add_sub_cancel, e2]
    intro ⟨h1, h2⟩
    exact h0 ⟨by omega, h2⟩

theorem valI_snoc (l : List Int) (x : Int) : valI (l ++ [x]) = valI l + x % 128 * 128 ^ l.length := by
  induction l with
  | nil => simp [valI]
  | cons y l ih => rw [List.cons_append, valI, ih, valI, List.length_cons, Int.pow_succ, Int.mul_add, ← Int.mul_assoc, ← Int.add_assoc, Int.mul_comm 128 (x % 128), Int.mul_assoc (x % 128), Int.mul_comm 128 (128 ^ l.length)]
theorem valI_bd (l : List Int) : 0 ≤ valI l ∧ valI l < 128 ^ l.length := by
  induction l with
  | nil => simp [valI]
  | cons y l ih => rw [valI, List.length_cons, Int.pow_succ]; omega
theorem valI_drop (l : List Int) (k : Nat) (hk : k < l.length) : valI (l.drop k) = valI (l.drop (k + 1)) * 128 + bt l k % 128 := by
  rw [drop_cons hk, valI]
  omega
theorem valI_drop_le (l : List Int) (k : Nat) : 0 ≤ valI (l.drop k) ∧ valI (l.drop k) ≤ valI l := by
  induction k with
  | zero => exact ⟨(valI_bd _).1, Int.le_refl _⟩
  | succ k ih =>
    have h := (valI_bd (l.drop (k + 1))).1
    refine ⟨h, ?_⟩
    by_cases hk : k < l.length
    · have := valI_drop l k hk
      omega
    · rw [List.drop_eq_nil_of_le (by omega)]
      exact (valI_bd l).1
/-- What a number's bytes come to fits. -/
theorem valI_fits {s : List Int} (hB : IsB s) {j : Nat} (hp : Pre s j) (hj : j < s.length) (h9 : ¬ (j = 9 ∧ 1 < bt s j)) : valI (s.take (j + 1)) < 18446744073709551616 := by
  rw [take_succ_bt hj, valI_snoc]
  have hb := valI_bd (s.take j)
  have hlen : (s.take j).length = j := by simp; omega
  rw [hlen] at hb ⊢
  have hx := hB.bt j
  have hj9 := hp.1
  rcases (by omega : j = 0 ∨ j = 1 ∨ j = 2 ∨ j = 3 ∨ j = 4 ∨ j = 5 ∨ j = 6 ∨ j = 7 ∨ j = 8 ∨ j = 9) with rfl | rfl | rfl | rfl | rfl | rfl | rfl | rfl | rfl | rfl <;> simp only [Int.reducePow] at hb ⊢ <;> omega
theorem valI_fits0 (s : List Int) (j : Nat) (hj : j ≤ 9) (hs : j ≤ s.length) : valI (s.take j) < 18446744073709551616 := by
  have hb := valI_bd (s.take j)
  have hlen : (s.take j).length = j := by simp; omega
  rw [hlen] at hb
  rcases (by omega : j = 0 ∨ j = 1 ∨ j = 2 ∨ j = 3 ∨ j = 4 ∨ j = 5 ∨ j = 6 ∨ j = 7 ∨ j = 8 ∨ j = 9) with rfl | rfl | rfl | rfl | rfl | rfl | rfl | rfl | rfl | rfl <;> simp only [Int.reducePow] at hb ⊢ <;> omega

theorem andNot128 {x : Int} (h : 0 ≤ x ∧ x ≤ 255) : bits .andNot .u8 x 128 = x % 128 := by
  obtain ⟨n, rfl⟩ := Int.eq_ofNat_of_zero_le h.1
  have h1 := u8_andNot_nat n 128 (by omega) (by decide)
  rw [show n &&& (255 - 128) = n % 128 from Nat.and_two_pow_sub_one_eq_mod n 7] at h1
  simpa using h1
theorem and128 {x : Int} (h : 0 ≤ x ∧ x ≤ 255) : (bits .and .u8 x 128 != 0) = decide (128 ≤ x) := by
  obtain ⟨n, rfl⟩ := Int.eq_ofNat_of_zero_le h.1
  have h1 := u8_and_nat n 128 (by omega) (by decide)
  rw [show (128 : Nat) = 2 ^ 7 from rfl, nat_bit 7 n] at h1
  have h2 : bits .and .u8 (n : Int) 128 = ((n / 128 % 2 * 128 : Nat) : Int) := h1
  rw [h2, Bool.eq_iff_iff, bne_iff_ne, decide_eq_true_eq]
  omega
/-- One group more. -/
theorem or_group {z x : Int} {j : Nat} (hj : j ≤ 9) (hz : 0 ≤ z ∧ z < 128 ^ j) (hx : 0 ≤ x ∧ x ≤ 127) (h9 : ¬ (j = 9 ∧ 1 < x)) :
    bits .or .u64 z (IntKind.u64.wrap (x * 2 ^ (7 * j))) = z + x * 128 ^ j := by
  obtain ⟨z, rfl⟩ := Int.eq_ofNat_of_zero_le hz.1
  obtain ⟨x, rfl⟩ := Int.eq_ofNat_of_zero_le hx.1
  have e : (2 : Int) ^ (7 * j) = 128 ^ j := by rw [Int.pow_mul]; rfl
  have hzn : z < 2 ^ (7 * j) := by
    have h2 := hz.2
    rw [← e] at h2
    have e3 : ((2 ^ (7 * j) : Nat) : Int) = (2 : Int) ^ (7 * j) := by simp
    omega
  have hfit : x * 2 ^ (7 * j) < 18446744073709551616 := by
    rcases (by omega : j = 0 ∨ j = 1 ∨ j = 2 ∨ j = 3 ∨ j = 4 ∨ j = 5 ∨ j = 6 ∨ j = 7 ∨ j = 8 ∨ j = 9) with rfl | rfl | rfl | rfl | rfl | rfl | rfl | rfl | rfl | rfl <;> simp only [Nat.reducePow, Nat.reduceMul] <;> omega
  have e2 : ((x * 2 ^ (7 * j) : Nat) : Int) = (x : Int) * 2 ^ (7 * j) := by simp
  rw [← e2, IntKind.wrap_u64, Int.emod_eq_of_lt (by omega) (by omega)]
  have hz64 : z < 18446744073709551616 := by
    have : 2 ^ (7 * j) ≤ 2 ^ 63 := Nat.pow_le_pow_right (by decide) (by omega)
    omega
  rw [u64_or_nat z _ hz64 hfit, Nat.or_comm, nat_join (7 * j) (x * 2 ^ (7 * j)) z (Nat.mul_mod_left _ _) hzn, ← e, ← e2]
  omega
theorem and1 {z : Int} (h : 0 ≤ z ∧ z < 18446744073709551616) : bits .and .u64 z 1 = z % 2 := by
  obtain ⟨n, rfl⟩ := Int.eq_ofNat_of_zero_le h.1
  have h1 := u64_and_nat n 1 (by omega) (by decide)
  rw [show n &&& 1 = n % 2 from Nat.and_two_pow_sub_one_eq_mod n 1] at h1
  simpa using h1
theorem zag_prog {z : Int} (h : 0 ≤ z ∧ z < 18446744073709551616) : bits .xor .i64 (z / 2) (-(z % 2)) = zag z := by
  obtain ⟨n, rfl⟩ := Int.eq_ofNat_of_zero_le h.1
  have e : ((n : Int) / 2) = ((n / 2 : Nat) : Int) := by omega
  have hx : (BitVec.ofInt 64 ((n / 2 : Nat) : Int)).toNat = n / 2 := by
    rw [BitVec.ofInt_natCast, BitVec.toNat_ofNat]; omega
  unfold zag
  by_cases h1 : (n : Int) % 2 = 1
  · rw [if_pos h1, h1, e]
    show IntKind.i64.wrap ((BitVec.ofInt 64 ((n / 2 : Nat) : Int) ^^^ BitVec.ofInt 64 (-1)).toNat : Int) = _
    rw [show BitVec.ofInt 64 (-1) = BitVec.allOnes 64 from by decide, BitVec.xor_allOnes, BitVec.toNat_not, hx, IntKind.wrap_i64]
    omega
  · rw [if_neg h1, show (n : Int) % 2 = 0 by omega, e]
    show IntKind.i64.wrap ((BitVec.ofInt 64 ((n / 2 : Nat) : Int) ^^^ BitVec.ofInt 64 0).toNat : Int) = _
    rw [show BitVec.ofInt 64 0 = 0#64 from rfl, BitVec.xor_zero, hx, IntKind.wrap_i64]
    omega
end Go.Proofs.Ytbbdglikdogmhaa
