/- Plain laws of layer 1: what is put is read as it was; what is read is put as it stood. No program in sight. -/
import Derived.Test.YtbbdglikdogmhaaNumP2
namespace Go.Proofs.Ytbbdglikdogmhaa
open Go.RowKit

theorem IsB.drop' {l : List Int} (h : IsB l) (n : Nat) : IsB (l.drop n) := fun x hx => h x (List.mem_of_mem_drop hx)
theorem grp_vl (z : Nat) : ∀ (i : Nat) (b : List Int), i ≤ 9 → z * 128 ^ i < 18446744073709551616 → grp i (vl z ++ b) = (0, vl z) := by
  induction z using Nat.strongRecOn with
  | _ z ih =>
    intro i b hi hz
    have h9 : i = 9 → z < 2 := by
      rintro rfl
      have : (128 : Nat) ^ 9 = 9223372036854775808 := by decide
      omega
    by_cases h : z < 128
    · rw [vl_small h]
      show (if i = 9 ∧ 1 < (z : Int) then ((9 : Int), ([] : List Int)) else if 128 ≤ (z : Int) then _ else ((0 : Int), [(z : Int)])) = _
      rw [if_neg (by omega), if_neg (by omega)]
    · rw [vl_big h]
      have h8 : i ≤ 8 := by
        rcases Nat.lt_or_ge i 9 with h1 | h1
        · omega
        · have := h9 (by omega); omega
      have hrec := ih (z / 128) (by omega) (i + 1) b (by omega) (by
        have h1 : z / 128 * 128 ≤ z := Nat.div_mul_le_self z 128
        have h2 : z / 128 * 128 ^ (i + 1) = z / 128 * 128 * 128 ^ i := by rw [Nat.pow_succ, Nat.mul_assoc, Nat.mul_comm (128 ^ i) 128]
        rw [h2]
        exact Nat.lt_of_le_of_lt (Nat.mul_le_mul_right _ h1) hz)
      show (if i = 9 ∧ 1 < ((z % 128 : Nat) + 128 : Int) then ((9 : Int), ([] : List Int)) else if 128 ≤ ((z % 128 : Nat) + 128 : Int) then ((grp (i + 1) (vl (z / 128) ++ b)).1, ((z % 128 : Nat) + 128 : Int) :: (grp (i + 1) (vl (z / 128) ++ b)).2) else _) = _
      rw [if_neg (by omega), if_pos (by omega), hrec]

theorem valI_vl (z : Nat) : valI (vl z) = z := by
  induction z using Nat.strongRecOn with
  | _ z ih =>
    by_cases h : z < 128
    · rw [vl_small h]; simp only [valI]; omega
    · rw [vl_big h]; simp only [valI]; rw [ih (z / 128) (by omega)]; omega

theorem bt_last_cons (x : Int) {l : List Int} (h : 0 < l.length) : bt (x :: l) ((x :: l).length - 1) = bt l (l.length - 1) := by
  rw [show (x :: l).length - 1 = (l.length - 1) + 1 by simp; omega, bt_cons_succ]
theorem vl_last (z : Nat) (h : 1 ≤ z) : bt (vl z) ((vl z).length - 1) ≠ 0 := by
  induction z using Nat.strongRecOn with
  | _ z ih =>
    by_cases h1 : z < 128
    · rw [vl_small h1]; simp [bt]; omega
    · rw [vl_big h1, bt_last_cons _ (vl_pos _)]
      exact ih (z / 128) (by omega) (by omega)

theorem zag_zig {n : Int} : zag (zig n : Int) = n := by unfold zag zig; split <;> split <;> omega
theorem zig_zag {z : Int} (h : 0 ≤ z) : (zig (zag z) : Int) = z := by unfold zag zig; split <;> split <;> omega

theorem unv_put (a b : List Int) {n : Int} (h : -9223372036854775808 ≤ n ∧ n ≤ 9223372036854775807) : unvL (a ++ (varL n ++ b)) a.length = (n, ((a.length : Nat) : Int) + (varL n).length, 0) := by
  have hz := zig_lt h
  rw [unvL, if_neg (by omega), Int.toNat_natCast, List.drop_left]
  have hg := grp_vl (zig n) 0 b (by omega) (by simpa using hz)
  rw [show varL n = vl (zig n) from rfl, hg]
  have hv := valI_vl (zig n)
  unfold unvG
  rw [if_neg (by simp), if_neg ?_]
  · simp only [hv, zag_zig]
  · rintro ⟨h1, h2⟩
    by_cases h0 : zig n < 128
    · rw [vl_small h0] at h1; simp at h1
    · exact vl_last (zig n) (by omega) h2

/-- The bytes of one number: all but the last one are followed by another one. -/
def Can : List Int → Prop
  | [] => False
  | [x] => 0 ≤ x ∧ x < 128
  | x :: y :: s => (128 ≤ x ∧ x ≤ 255) ∧ Can (y :: s)
theorem grp_can : ∀ (s : List Int) (i : Nat) (g : List Int), IsB s → grp i s = (0, g) → Can g ∧ g.length ≤ s.length ∧ g = s.take g.length
  | [], i, g, _, h => by simp [grp] at h
  | x :: s, i, g, hB, h => by
    have hx := hB x (by simp)
    rw [grp] at h
    split at h
    · simp at h
    · split at h
      · simp only [Prod.mk.injEq] at h
        obtain ⟨h1, h2⟩ := h
        obtain ⟨c1, c2, c3⟩ := grp_can s (i + 1) (grp (i + 1) s).2 (fun y hy => hB y (by simp [hy])) (by rw [← h1])
        subst h2
        refine ⟨?_, by simp; omega, ?_⟩
        · cases hg : (grp (i + 1) s).2 with
          | nil => rw [hg] at c1; exact absurd c1 (by simp [Can])
          | cons y r => rw [hg] at c1; exact ⟨⟨by omega, hx.2⟩, c1⟩
        · rw [List.length_cons, List.take_succ_cons, ← c3]
      · simp only [Prod.mk.injEq, true_and] at h
        subst h
        exact ⟨⟨hx.1, by omega⟩, by simp, by simp⟩
theorem can_pos {g : List Int} (h : Can g) : 0 < g.length := by
  cases g with
  | nil => exact absurd h (by simp [Can])
  | cons x s => simp
theorem can_val : ∀ (g : List Int), Can g → bt g (g.length - 1) ≠ 0 → 1 ≤ valI g
  | [x], h, h0 => by simp [bt] at h0; simp [Can] at h; simp only [valI]; omega
  | x :: y :: s, h, h0 => by
    rw [bt_last_cons _ (by simp)] at h0
    have := can_val (y :: s) h.2 h0
    have e : valI (x :: y :: s) = x % 128 + 128 * valI (y :: s) := rfl
    rw [e]; omega
theorem can_vl : ∀ (g : List Int), Can g → ¬ (1 < g.length ∧ bt g (g.length - 1) = 0) → vl (valI g).toNat = g
  | [x], h, _ => by
    simp only [Can] at h
    have e : valI [x] = x := by simp only [valI]; omega
    rw [e, vl_small (by omega), Int.toNat_of_nonneg h.1]
  | x :: y :: s, h, h0 => by
    have h0' : bt (y :: s) ((y :: s).length - 1) ≠ 0 := fun e => h0 ⟨by simp, by rw [bt_last_cons _ (by simp)]; exact e⟩
    have hv := can_val (y :: s) h.2 h0'
    have ih := can_vl (y :: s) h.2 (fun hc => h0' hc.2)
    have hx := h.1
    have e : valI (x :: y :: s) = x % 128 + 128 * valI (y :: s) := rfl
    have e1 : (valI (x :: y :: s)).toNat / 128 = (valI (y :: s)).toNat := by rw [e]; omega
    have e2 : (((valI (x :: y :: s)).toNat % 128 : Nat) : Int) + 128 = x := by rw [e]; omega
    rw [vl_big (by rw [e]; omega), e1, e2, ih]

theorem grp_fits : ∀ (s : List Int) (k : Nat) (g : List Int), IsB s → k ≤ 9 → grp (9 - k) s = (0, g) → valI g < 2 * 128 ^ k
  | [], k, g, _, _, h => by simp [grp] at h
  | x :: s, k, g, hB, hk, h => by
    rw [grp] at h
    have hxB := hB x (by simp)
    have hp : (1 : Int) ≤ 128 ^ k := Int.pow_pos (by decide)
    split at h
    · simp at h
    · rename_i h9
      split at h
      · rename_i hx
        simp only [Prod.mk.injEq] at h
        obtain ⟨h1, h2⟩ := h
        cases k with
        | zero => exact absurd ⟨rfl, by omega⟩ h9
        | succ k =>
          have := grp_fits s k (grp (9 - (k + 1) + 1) s).2 (fun y hy => hB y (by simp [hy])) (by omega) (by rw [show 9 - k = 9 - (k + 1) + 1 by omega, ← h1])
          subst h2
          have e : valI (x :: (grp (9 - (k + 1) + 1) s).2) = x % 128 + 128 * valI (grp (9 - (k + 1) + 1) s).2 := rfl
          rw [e, Int.pow_succ]
          omega
      · rename_i hx
        simp only [Prod.mk.injEq, true_and] at h
        subst h
        simp only [valI]
        cases k with
        | zero => simp at h9; simp; omega
        | succ k =>
          have hp2 : (1 : Int) ≤ 128 ^ k := Int.pow_pos (by decide)
          rw [Int.pow_succ]; omega

theorem unv_back {l : List Int} (hB : IsB l) (h : (unvL l 0).2.2 = 0) : ∃ t : Nat, (unvL l 0).2.1 = t ∧ 0 < t ∧ t ≤ l.length ∧ varL (unvL l 0).1 = l.take t ∧ (-9223372036854775808 ≤ (unvL l 0).1 ∧ (unvL l 0).1 ≤ 9223372036854775807) := by
  rw [unvL, if_neg (by omega)] at h ⊢
  simp only [Int.toNat_zero, List.drop_zero] at h ⊢
  obtain ⟨⟨e, g⟩, hg⟩ : ∃ q, q = grp 0 l := ⟨_, rfl⟩
  rw [← hg] at h ⊢
  unfold unvG at h ⊢
  by_cases he : e ≠ 0
  · rw [if_pos he] at h; exact absurd h he
  · rw [if_neg he] at h ⊢
    by_cases h1 : 1 < g.length ∧ bt g (g.length - 1) = 0
    · rw [if_pos h1] at h; exact absurd h (by decide)
    · rw [if_neg h1] at h ⊢
      obtain rfl : e = 0 := by simpa using he
      obtain ⟨c1, c2, c3⟩ := grp_can l 0 g hB hg.symm
      have hv := can_vl g c1 h1
      refine ⟨g.length, by simp, can_pos c1, c2, ?_, ?_⟩
      · show varL (zag (valI g)) = _
        have h0 := (valI_bd g).1
        have hz := zig_zag h0
        rw [← c3, varL, show zig (zag (valI g)) = (valI g).toNat by omega, hv]
      · show -9223372036854775808 ≤ zag (valI g) ∧ zag (valI g) ≤ 9223372036854775807
        have hf := grp_fits l 9 g hB (by omega) hg.symm
        have h0 := (valI_bd g).1
        have e : (2 : Int) * 128 ^ 9 = 18446744073709551616 := by decide
        rw [e] at hf
        unfold zag; split <;> omega

/-- .. from any place on. -/
theorem unv_at {l : List Int} (hB : IsB l) (a : Nat) (h : (unvL l a).2.2 = 0) : ∃ q : Nat, (unvL l a).2.1 = (q : Int) ∧ a < q ∧ q ≤ l.length ∧ varL (unvL l a).1 = (l.drop a).take (q - a) ∧ (-9223372036854775808 ≤ (unvL l a).1 ∧ (unvL l a).1 ≤ 9223372036854775807) := by
  have e1 : unvL l a = unvG a (grp 0 (l.drop a)) := by rw [unvL, if_neg (by omega), Int.toNat_natCast]
  have e2 : unvL (l.drop a) 0 = unvG 0 (grp 0 (l.drop a)) := by rw [unvL, if_neg (by omega)]; simp
  have e3 : (unvL l a).2.2 = (unvL (l.drop a) 0).2.2 ∧ (unvL l a).1 = (unvL (l.drop a) 0).1 ∧ ((unvL l a).2.2 = 0 → (unvL l a).2.1 = a + (unvL (l.drop a) 0).2.1) := by
    rw [e1, e2]
    unfold unvG
    split
    · exact ⟨rfl, rfl, fun hh => absurd hh (by assumption)⟩
    · split
      · exact ⟨rfl, rfl, fun hh => absurd hh (by decide)⟩
      · exact ⟨rfl, rfl, fun _ => by simp⟩
  obtain ⟨t, h1, h2, h3, h4, h5⟩ := unv_back (IsB.drop' hB a) (e3.1.symm.trans h)
  refine ⟨a + t, by rw [e3.2.2 h, h1]; omega, by omega, by rw [List.length_drop] at h3; omega, ?_, ?_⟩
  · rw [e3.2.1, h4, show a + t - a = t by omega]
  · rw [e3.2.1]; exact h5
end Go.Proofs.Ytbbdglikdogmhaa
