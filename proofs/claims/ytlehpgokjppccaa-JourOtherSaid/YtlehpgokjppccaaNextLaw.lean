/- The plain law of the chain: it goes on, and it keeps unlike numbers and unlike bytes apart. No program in sight. -/
import Derived.Test.YtlehpgokjppccaaCrcLaw2
namespace Go.Proofs.Ytlehpgokjppccaa
open Go.RowKit

/-- One step of the chain. -/
def nx (h x : Nat) : Nat := ((h ^^^ x) * 1099511628211) % 18446744073709551616
def nxs (h : Nat) (l : List Nat) : Nat := l.foldl nx h
theorem nx_lt (h x : Nat) : nx h x < 18446744073709551616 := Nat.mod_lt _ (by decide)
theorem mul_inv (a : Nat) (ha : a < 18446744073709551616) : (a * 1099511628211) % 18446744073709551616 * 14886173955864302971 % 18446744073709551616 = a := by
  have e : 1099511628211 * 14886173955864302971 % 18446744073709551616 = 1 := by decide
  rw [Nat.mod_mul_mod, Nat.mul_assoc, ← Nat.mul_mod_mod, e, Nat.mul_one]
  exact Nat.mod_eq_of_lt ha
theorem nx_inj {a x b y : Nat} (ha : a < 18446744073709551616) (hx : x < 18446744073709551616) (hb : b < 18446744073709551616) (hy : y < 18446744073709551616) (h : nx a x = nx b y) : a ^^^ x = b ^^^ y := by
  have h1 : a ^^^ x < 18446744073709551616 := Nat.xor_lt_two_pow (n := 64) ha hx
  have h2 : b ^^^ y < 18446744073709551616 := Nat.xor_lt_two_pow (n := 64) hb hy
  have h3 := congrArg (fun n => n * 14886173955864302971 % 18446744073709551616) h
  simp only [nx] at h3
  rwa [mul_inv _ h1, mul_inv _ h2] at h3
theorem nxI_nat (h x : Nat) (hh : h < 18446744073709551616) (hx : x < 256) : nxI (h : Int) (x : Int) = (nx h x : Nat) := by
  unfold nxI nx
  rw [u64_xor_nat h x hh (by omega), IntKind.wrap_u64]
  omega
theorem nextI_nat {l : List Int} (s : Nat) (hs : s < 18446744073709551616) (h : IsB l) : nextI (s : Int) l = (nxs s (toN l) : Nat) := by
  induction l generalizing s with
  | nil => rfl
  | cons x l ih =>
    have hx := h x (List.mem_cons_self ..)
    obtain ⟨n, rfl⟩ := Int.eq_ofNat_of_zero_le hx.1
    have h1 := nxI_nat s n hs (by omega)
    show nextI (nxI s n) l = _
    rw [h1, ih _ (nx_lt _ _) (fun y hy => h y (List.mem_cons_of_mem _ hy))]
    rfl
theorem nxs_lt {s : Nat} (hs : s < 18446744073709551616) (l : List Nat) : nxs s l < 18446744073709551616 := by
  induction l generalizing s with
  | nil => exact hs
  | cons x l ih => exact ih (nx_lt _ _)
theorem nxs_append (s : Nat) (l m : List Nat) : nxs s (l ++ m) = nxs (nxs s l) m := by simp [nxs]
theorem nxs_inj {a b : Nat} {l : List Nat} (ha : a < 18446744073709551616) (hb : b < 18446744073709551616) (h : ∀ x ∈ l, x < 256) (he : nxs a l = nxs b l) : a = b := by
  induction l generalizing a b with
  | nil => exact he
  | cons x l ih =>
    have hx := h x (List.mem_cons_self ..)
    have h1 := ih (nx_lt _ _) (nx_lt _ _) (fun y hy => h y (List.mem_cons_of_mem _ hy)) he
    have h2 := nx_inj ha (by omega) hb (by omega) h1
    have h3 := congrArg (· ^^^ x) h2
    simpa [Nat.xor_assoc] using h3
theorem nextI_append (c : Int) (l m : List Int) : nextI c (l ++ m) = nextI (nextI c l) m := by simp [nextI, List.foldl_append]
/-- Unlike numbers stay unlike. -/
theorem next_apart {a c : Int} {l : List Int} (h : IsB l) (ha : 0 ≤ a ∧ a ≤ 18446744073709551615) (hc : 0 ≤ c ∧ c ≤ 18446744073709551615) : nextI a l = nextI c l ↔ a = c := by
  constructor
  · intro he
    obtain ⟨a, rfl⟩ := Int.eq_ofNat_of_zero_le ha.1
    obtain ⟨c, rfl⟩ := Int.eq_ofNat_of_zero_le hc.1
    rw [nextI_nat a (by omega) h, nextI_nat c (by omega) h] at he
    rw [nxs_inj (by omega) (by omega) (toN_lt h) (Int.ofNat.inj he)]
  · rintro rfl; rfl

/-- Of four bytes turned by a number below 256 the first one alone is turned. -/
theorem xor_zero8 {x : Int} (h : 0 ≤ x ∧ x ≤ 255) : bits .xor .u8 x 0 = x := by
  obtain ⟨n, rfl⟩ := Int.eq_ofNat_of_zero_le h.1
  have := u8_xor_nat n 0 (by omega) (by decide)
  simpa using this
theorem turn1_zero {l : List Int} (h : IsB l) (i : Nat) : turn1 l i 0 = l := by
  unfold turn1
  split
  · rename_i hi
    rw [show (0 : Int) % 256 = 0 from rfl, xor_zero8 (h.bt i), bt_lt hi, List.set_getElem_self]
  · rfl
theorem turnN_one {l : List Int} (h : IsB l) (at_ : Nat) (b : Int) (h0 : 0 ≤ b) (h1 : b ≤ 255) : (turnN at_ l b 4).1 = turn1 l at_ b := by
  have e : b / 256 = 0 := by omega
  have hB := turn1_isB h at_ b
  simp only [turnN, Nat.add_zero, e, show (0 : Int) / 256 = 0 from rfl]
  rw [turn1_zero hB, turn1_zero hB, turn1_zero hB]
/-- A byte that is turned alone: the chain tells. -/
theorem next_turned {c : Int} {l : List Int} (h : IsB l) (hc : 0 ≤ c ∧ c ≤ 18446744073709551615) (at_ : Nat) (hat : at_ < l.length) (b : Int) (h0 : 0 ≤ b) (h1 : b ≤ 255) :
    nextI c (turnN at_ l b 4).1 = nextI c l ↔ b = 0 := by
  rw [turnN_one h at_ b h0 h1]
  constructor
  · intro he
    obtain ⟨c, rfl⟩ := Int.eq_ofNat_of_zero_le hc.1
    obtain ⟨b, rfl⟩ := Int.eq_ofNat_of_zero_le h0
    have hB := turn1_isB h at_ b
    have hx := h.bt at_
    rw [nextI_nat c (by omega) hB, nextI_nat c (by omega) h] at he
    have he := Int.ofNat.inj he
    have e1 : l = l.take at_ ++ bt l at_ :: l.drop (at_ + 1) := by
      rw [bt_lt hat]; simp
    have e2 : turn1 l at_ b = l.take at_ ++ bits .xor .u8 (bt l at_) (b % 256) :: l.drop (at_ + 1) := by
      rw [turn1, if_pos hat, List.set_eq_take_append_cons_drop, if_pos hat]
    have n1 := congrArg toN e1
    have n2 := congrArg toN e2
    obtain ⟨x, hxx⟩ := Int.eq_ofNat_of_zero_le hx.1
    rw [hxx] at hx n1 n2
    have e3 : bits .xor .u8 (x : Int) ((b : Int) % 256) = ((x ^^^ b : Nat) : Int) := by
      rw [show ((b : Int) % 256) = (b : Int) by omega]
      exact u8_xor_nat x b (by omega) (by omega)
    rw [e3] at n2
    simp only [toN, List.map_append, List.map_cons, Int.toNat_natCast] at n1 n2
    simp only [toN] at he
    rw [n1, n2, nxs_append, nxs_append] at he
    have hb : x ^^^ b < 256 := Nat.xor_lt_two_pow (n := 8) (by omega) (by omega)
    have hlt : nxs c ((l.take at_).map Int.toNat) < 18446744073709551616 := nxs_lt (by omega) _
    have h5 := nxs_inj (nx_lt _ _) (nx_lt _ _) (toN_lt (h.drop (at_ + 1))) he
    have h6 := nx_inj hlt (by omega) hlt (by omega) h5
    have h7 := congrArg (nxs c ((l.take at_).map Int.toNat) ^^^ ·) h6
    simp only [← Nat.xor_assoc, Nat.xor_self, Nat.zero_xor] at h7
    have h8 := congrArg (x ^^^ ·) h7
    simp only [← Nat.xor_assoc, Nat.xor_self, Nat.zero_xor] at h8
    omega
  · rintro rfl
    rw [turn1_zero h]
end Go.Proofs.Ytlehpgokjppccaa
