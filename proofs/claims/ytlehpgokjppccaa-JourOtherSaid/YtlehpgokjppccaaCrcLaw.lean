/- The plain law of the sum: table and bit by bit agree; it is linear; bytes that differ within four of them have unlike sums. No program in sight. -/
import Derived.Test.YtlehpgokjppccaaPlain
namespace Go.Proofs.Ytlehpgokjppccaa
open Go.RowKit

/-! ### over natural numbers -/
/-- One bit. -/
def rb (s : Nat) : Nat := (s / 2) ^^^ (if s % 2 = 1 then 2197175160 else 0)
def rbs : Nat → Nat → Nat
  | 0, s => s
  | k + 1, s => rb (rbs k s)
theorem rb_even (m : Nat) : rb (2 * m) = m := by simp [rb]
theorem rb_zero : rb 0 = 0 := rfl
theorem rb_xor (a b : Nat) : rb (a ^^^ b) = rb a ^^^ rb b := by
  unfold rb
  have h1 : (a ^^^ b) / 2 = a / 2 ^^^ b / 2 := by
    apply Nat.eq_of_testBit_eq
    intro i
    simp [Nat.testBit_xor, Nat.testBit_div_two]
  have h2 : (a ^^^ b) % 2 = (a % 2 + b % 2) % 2 := by
    have e : ∀ n : Nat, n % 2 = if n.testBit 0 then 1 else 0 := by
      intro n; rw [Nat.testBit_zero]; rcases Nat.mod_two_eq_zero_or_one n with h | h <;> simp [h]
    rw [e (a ^^^ b), e a, e b, Nat.testBit_xor]
    cases a.testBit 0 <;> cases b.testBit 0 <;> rfl
  rw [h1, h2]
  rcases Nat.mod_two_eq_zero_or_one a with ha | ha <;> rcases Nat.mod_two_eq_zero_or_one b with hb | hb <;> simp [ha, hb]
  · rw [Nat.xor_assoc]
  · rw [Nat.xor_assoc, Nat.xor_assoc, Nat.xor_comm (b / 2)]
  · generalize 2197175160 = p
    calc a / 2 ^^^ b / 2 = a / 2 ^^^ (b / 2 ^^^ (p ^^^ p)) := by rw [Nat.xor_self, Nat.xor_zero]
      _ = a / 2 ^^^ p ^^^ (b / 2 ^^^ p) := by
        rw [← Nat.xor_assoc (b / 2), Nat.xor_comm (b / 2 ^^^ p), ← Nat.xor_assoc]
theorem rb_lt {n : Nat} (h : n < 2 ^ 32) : rb n < 2 ^ 32 := by
  unfold rb
  apply Nat.xor_lt_two_pow
  · omega
  · split <;> omega
theorem rb_ker {n : Nat} (h : n < 2 ^ 32) (h0 : rb n = 0) : n = 0 := by
  unfold rb at h0
  split at h0
  · have : n / 2 = 2197175160 := by
      have h1 := congrArg (· ^^^ 2197175160) h0
      simpa [Nat.xor_assoc] using h1
    omega
  · simp at h0
    omega
theorem rbs_xor (k a b : Nat) : rbs k (a ^^^ b) = rbs k a ^^^ rbs k b := by
  induction k with
  | zero => rfl
  | succ k ih => rw [rbs, ih, rb_xor]; rfl
theorem rbs_lt (k : Nat) {n : Nat} (h : n < 2 ^ 32) : rbs k n < 2 ^ 32 := by
  induction k with
  | zero => exact h
  | succ k ih => exact rb_lt ih
theorem rbs_ker (k : Nat) {n : Nat} (h : n < 2 ^ 32) (h0 : rbs k n = 0) : n = 0 := by
  induction k with
  | zero => exact h0
  | succ k ih => exact ih (rb_ker (rbs_lt k h) h0)
theorem rbs_add (j k s : Nat) : rbs (j + k) s = rbs j (rbs k s) := by
  induction j with
  | zero => simp [rbs]
  | succ j ih => rw [Nat.succ_add, rbs, ih]; rfl
theorem rbs_pow (k m : Nat) : rbs k (2 ^ k * m) = m := by
  induction k generalizing m with
  | zero => simp [rbs]
  | succ k ih =>
    rw [rbs, show 2 ^ (k + 1) * m = 2 ^ k * (2 * m) by rw [Nat.pow_succ, Nat.mul_assoc], ih, rb_even]
theorem xor_cancel {a b : Nat} (h : a ^^^ b = 0) : a = b := by
  have h1 := congrArg (· ^^^ b) h
  simpa [Nat.xor_assoc] using h1
theorem rbs_inj (k : Nat) {a b : Nat} (ha : a < 2 ^ 32) (hb : b < 2 ^ 32) (h : rbs k a = rbs k b) : a = b := by
  refine xor_cancel (rbs_ker k (Nat.xor_lt_two_pow ha hb) ?_)
  rw [rbs_xor, h, Nat.xor_self]

/-- The sum's state behind some bytes. -/
def st (s : Nat) : List Nat → Nat
  | [] => s
  | x :: l => st (rbs 8 (s ^^^ x)) l
/-- The number that bytes are, the lowest first. -/
def wd : List Nat → Nat
  | [] => 0
  | x :: l => x ^^^ (256 * wd l)
theorem st_wd (s : Nat) (l : List Nat) : st s l = rbs (8 * l.length) (s ^^^ wd l) := by
  induction l generalizing s with
  | nil => simp [st, wd, rbs]
  | cons x l ih =>
    have e : rbs 8 (256 * wd l) = wd l := rbs_pow 8 (wd l)
    rw [st, ih, wd, List.length_cons, Nat.mul_succ, rbs_add, ← Nat.xor_assoc, rbs_xor 8 (s ^^^ x), e]
theorem st_append (s : Nat) (l m : List Nat) : st s (l ++ m) = st (st s l) m := by
  induction l generalizing s with
  | nil => rfl
  | cons x l ih => exact ih _
theorem wd_lt {l : List Nat} (h : ∀ x ∈ l, x < 256) : wd l < 2 ^ (8 * l.length) := by
  induction l with
  | nil => simp [wd]
  | cons x l ih =>
    have h1 := ih (fun y hy => h y (List.mem_cons_of_mem _ hy))
    have h2 := h x (List.mem_cons_self ..)
    rw [wd, List.length_cons, Nat.mul_succ]
    apply Nat.xor_lt_two_pow
    · calc x < 2 ^ 8 := h2
        _ ≤ 2 ^ (8 * l.length + 8) := Nat.pow_le_pow_right (by decide) (by omega)
    · rw [Nat.pow_add]; omega
theorem wd_cons {x : Nat} {l : List Nat} (h : x < 256) : wd (x :: l) = x + 256 * wd l := by
  rw [wd, Nat.xor_comm, Nat.add_comm]
  have := Nat.two_pow_add_eq_or_of_lt (i := 8) (b := x) h (wd l)
  rw [show 2 ^ 8 = 256 from rfl] at this
  rw [this]
  apply Nat.eq_of_testBit_eq
  intro i
  rw [Nat.testBit_xor, Nat.testBit_or]
  by_cases hi : i < 8
  · have : (256 * wd l).testBit i = false := by
      rw [show 256 = 2 ^ 8 from rfl, Nat.testBit_two_pow_mul]; simp; omega
    simp [this]
  · have : x.testBit i = false := Nat.testBit_lt_two_pow (Nat.lt_of_lt_of_le h (by calc 256 = 2 ^ 8 := rfl
      _ ≤ 2 ^ i := Nat.pow_le_pow_right (by decide) (by omega)))
    simp [this]
theorem wd_inj {l m : List Nat} (hl : ∀ x ∈ l, x < 256) (hm : ∀ x ∈ m, x < 256) (hlen : l.length = m.length) (h : wd l = wd m) : l = m := by
  induction l generalizing m with
  | nil => cases m with | nil => rfl | cons _ _ => simp at hlen
  | cons x l ih =>
    cases m with
    | nil => simp at hlen
    | cons y m =>
      have hx := hl x (List.mem_cons_self ..)
      have hy := hm y (List.mem_cons_self ..)
      rw [wd_cons hx, wd_cons hy] at h
      obtain rfl : x = y := by omega
      rw [ih (fun z hz => hl z (List.mem_cons_of_mem _ hz)) (fun z hz => hm z (List.mem_cons_of_mem _ hz)) (by simpa using hlen) (by omega)]
theorem st_lt {s : Nat} {l : List Nat} (hs : s < 2 ^ 32) (h : ∀ x ∈ l, x < 256) : st s l < 2 ^ 32 := by
  induction l generalizing s with
  | nil => exact hs
  | cons x l ih =>
    exact ih (rbs_lt 8 (Nat.xor_lt_two_pow hs (Nat.lt_of_lt_of_le (h x (List.mem_cons_self ..)) (by decide)))) (fun y hy => h y (List.mem_cons_of_mem _ hy))
theorem st_inj {a b : Nat} {l : List Nat} (ha : a < 2 ^ 32) (hb : b < 2 ^ 32) (h : ∀ x ∈ l, x < 256) (he : st a l = st b l) : a = b := by
  induction l generalizing a b with
  | nil => exact he
  | cons x l ih =>
    have hx : x < 2 ^ 32 := Nat.lt_of_lt_of_le (h x (List.mem_cons_self ..)) (by decide)
    have h1 := ih (rbs_lt 8 (Nat.xor_lt_two_pow ha hx)) (rbs_lt 8 (Nat.xor_lt_two_pow hb hx)) (fun y hy => h y (List.mem_cons_of_mem _ hy)) he
    have h2 := rbs_inj 8 (Nat.xor_lt_two_pow ha hx) (Nat.xor_lt_two_pow hb hx) h1
    have h3 := congrArg (· ^^^ x) h2
    simpa [Nat.xor_assoc] using h3
/-- Bytes that differ within four of them alone have unlike states. -/
theorem st_four {s : Nat} {p u v q : List Nat} (hs : s < 2 ^ 32) (hp : ∀ x ∈ p, x < 256) (hu : ∀ x ∈ u, x < 256) (hv : ∀ x ∈ v, x < 256) (hq : ∀ x ∈ q, x < 256) (huv : u.length = v.length) (h4 : u.length ≤ 4)
    (h : st s (p ++ u ++ q) = st s (p ++ v ++ q)) : u = v := by
  rw [st_append, st_append, st_append s (p ++ v), st_append s p v] at h
  have h0 := st_lt hs hp
  have h1 := st_inj (st_lt h0 hu) (st_lt h0 hv) hq h
  have wu : wd u < 2 ^ 32 := Nat.lt_of_lt_of_le (wd_lt hu) (Nat.pow_le_pow_right (by decide) (by omega))
  have wv : wd v < 2 ^ 32 := Nat.lt_of_lt_of_le (wd_lt hv) (Nat.pow_le_pow_right (by decide) (by omega))
  rw [st_wd (st s p) u, st_wd (st s p) v, ← huv] at h1
  have h2 := rbs_inj _ (Nat.xor_lt_two_pow h0 wu) (Nat.xor_lt_two_pow h0 wv) h1
  have h3 := congrArg (st s p ^^^ ·) h2
  simp only [← Nat.xor_assoc, Nat.xor_self, Nat.zero_xor] at h3
  exact wd_inj hu hv huv h3
end Go.Proofs.Ytlehpgokjppccaa
