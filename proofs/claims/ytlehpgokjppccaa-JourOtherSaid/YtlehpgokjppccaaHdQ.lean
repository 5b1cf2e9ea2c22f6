/- A file's head: what is written is read as it was; what is turned is not taken. No program in sight. -/
import Derived.Test.YtlehpgokjppccaaHdF
import Derived.Test.YtlehpgokjppccaaNumP2
import Derived.Test.YtlehpgokjppccaaSumL2
namespace Go.Proofs.Ytlehpgokjppccaa
open Go.RowKit

theorem mod_splitq (a : Int) (k : Nat) : a % 256 ^ (k + 1) = (a / 256 ^ k % 256) * 256 ^ k + a % 256 ^ k := by
  have hp : (0 : Int) < 256 ^ k := Int.pow_pos (by decide)
  have h1 := Int.mul_ediv_add_emod a (256 ^ k)
  have h2 := Int.mul_ediv_add_emod (a / 256 ^ k) 256
  have h3 := Int.emod_nonneg a (Int.ne_of_gt hp)
  have h4 := Int.emod_lt_of_pos a hp
  have h5 : 0 ≤ a / 256 ^ k % 256 := Int.emod_nonneg _ (by decide)
  have h6 : a / 256 ^ k % 256 < 256 := Int.emod_lt_of_pos _ (by decide)
  generalize hq : a / 256 ^ k / 256 = q at *
  generalize hr : a / 256 ^ k % 256 = r at *
  generalize hs : a % 256 ^ k = s at *
  generalize ha : a / 256 ^ k = d at *
  generalize hP : (256 : Int) ^ k = p at *
  have e : a = (r * p + s) + p * 256 * q := by rw [← h1, ← h2, Int.mul_add]; rw [Int.mul_assoc p 256 q, Int.mul_comm r p]; omega
  rw [Int.pow_succ, hP, e, Int.add_mul_emod_self_left]
  refine Int.emod_eq_of_lt ?_ ?_
  · have := Int.mul_nonneg h5 (Int.le_of_lt hp); omega
  · have h7 : r * p ≤ 255 * p := Int.mul_le_mul_of_nonneg_right (by omega) (Int.le_of_lt hp)
    omega

theorem foldl_fxq (n : Int) (k : Nat) : ∀ a : Int, (fxL n k).foldl (fun a x => a * 256 + x) a = a * 256 ^ k + n % 256 ^ k := by
  induction k with
  | zero => intro a; simp [fxL, Int.emod_one]
  | succ k ih =>
    intro a
    rw [fxL, List.foldl_cons, ih, mod_splitq, Int.add_mul, Int.pow_succ, Int.mul_assoc, Int.mul_comm 256, Int.add_assoc]
theorem beI_fxq (n : Int) (k : Nat) : beI (fxL n k) = n % 256 ^ k := by rw [beI, foldl_fxq]; omega
theorem beI_fx4 {n : Int} (h : 0 ≤ n ∧ n ≤ 4294967295) : beI (fxL n 4) = n := by
  have e : (256 : Int) ^ 4 = 4294967296 := by decide
  rw [beI_fxq, e]; omega
theorem four_skip (x y : List Int) (p : Nat) (h : x.length ≤ p) : fourI (x ++ y) p = fourI y (p - x.length) := by
  rw [fourI, fourI, List.drop_append, List.drop_eq_nil_of_le h, List.nil_append]
theorem four_here (n : Int) (y : List Int) (h : 0 ≤ n ∧ n ≤ 4294967295) : fourI (fxL n 4 ++ y) 0 = n := by
  rw [fourI, List.drop_zero, List.take_left' (fxL_length n 4), beI_fx4 h]
theorem head_split (h : Hd) (more : List Int) : headL h ++ more = signL ++ (fxL h.s 4 ++ (fxL h.p 4 ++ (fxL h.f 4 ++ (fxL h.m 4 ++ (fxL h.c 4 ++ (fxL h.v 4 ++ (List.replicate 20 0 ++ (fxL (sumI (bodyL h)) 4 ++ more)))))))) := by
  simp only [headL, bodyL, fxs, Hd.list, List.flatMap_cons, List.flatMap_nil, List.append_assoc, List.append_nil]
theorem signL_len : signL.length = 16 := rfl
theorem head_read {h : Hd} (hg : h.good) (more : List Int) : readH (headL h ++ more) = h := by
  have b0 := hg.fields 0
  have b1 := hg.fields 1
  have b2 := hg.fields 2
  have b3 := hg.fields 3
  have b4 := hg.fields 4
  have b5 := hg.fields 5
  simp only [Hd.list, List.getD_cons_zero, List.getD_cons_succ] at b0 b1 b2 b3 b4 b5
  rw [head_split]
  obtain ⟨s, p, f, m, c, v⟩ := h
  simp only at b0 b1 b2 b3 b4 b5 ⊢
  unfold readH
  congr 1
  · rw [four_skip _ _ _ (by simp [signL]), signL_len, four_here _ _ (by omega)]
  · rw [four_skip _ _ _ (by simp [signL]), signL_len, four_skip _ _ _ (by simp [fxL_length]), fxL_length, four_here _ _ (by omega)]
  · rw [four_skip _ _ _ (by simp [signL]), signL_len, four_skip _ _ _ (by simp [fxL_length]), fxL_length, four_skip _ _ _ (by simp [fxL_length]), fxL_length, four_here _ _ (by omega)]
  · rw [four_skip _ _ _ (by simp [signL]), signL_len, four_skip _ _ _ (by simp [fxL_length]), fxL_length, four_skip _ _ _ (by simp [fxL_length]), fxL_length, four_skip _ _ _ (by simp [fxL_length]), fxL_length, four_here _ _ (by omega)]
  · rw [four_skip _ _ _ (by simp [signL]), signL_len, four_skip _ _ _ (by simp [fxL_length]), fxL_length, four_skip _ _ _ (by simp [fxL_length]), fxL_length, four_skip _ _ _ (by simp [fxL_length]), fxL_length, four_skip _ _ _ (by simp [fxL_length]), fxL_length, four_here _ _ (by omega)]
  · rw [four_skip _ _ _ (by simp [signL]), signL_len, four_skip _ _ _ (by simp [fxL_length]), fxL_length, four_skip _ _ _ (by simp [fxL_length]), fxL_length, four_skip _ _ _ (by simp [fxL_length]), fxL_length, four_skip _ _ _ (by simp [fxL_length]), fxL_length, four_skip _ _ _ (by simp [fxL_length]), fxL_length, four_here _ _ (by omega)]
theorem head_sign (h : Hd) (more : List Int) : (headL h ++ more).take 16 = signL := by
  rw [head_split]; exact List.take_left' rfl
theorem decL_back {h : Hd} (hg : h.good) (more : List Int) : decL (headL h ++ more) = (h, 0) := by
  have hr := head_read hg more
  have ht : (headL h ++ more).take 64 = headL h := List.take_left' (headL_length h)
  rw [decL, if_neg (by simp [headL_length]), if_neg (by simp [head_sign]), if_pos ⟨by rw [hr]; exact hg, by rw [hr, ht]⟩, hr]
theorem decL_ok {b : List Int} (h : (decL b).2 = 0) : (decL b).1.good ∧ headL (decL b).1 = b.take 64 ∧ 64 ≤ b.length := by
  unfold decL at h ⊢
  split
  · rename_i h1; rw [if_pos h1] at h; cases h
  · rename_i h1
    rw [if_neg h1] at h
    split
    · rename_i h2; rw [if_pos h2] at h; cases h
    · rename_i h2
      rw [if_neg h2] at h
      split
      · rename_i h3; exact ⟨h3.1, h3.2, by omega⟩
      · rename_i h3; rw [if_neg h3] at h; cases h
theorem decL_two (b : List Int) : (decL b).2 = 0 ∨ (decL b).1 = zeroH := by
  unfold decL
  split
  · exact .inr rfl
  · split
    · exact .inr rfl
    · split
      · exact .inl rfl
      · exact .inr rfl

theorem turn1_append {l m : List Int} {i : Nat} (b : Int) (h : i < l.length) : turn1 (l ++ m) i b = turn1 l i b ++ m := by
  have e : bt (l ++ m) i = bt l i := by simp [bt, List.getElem?_append_left h, h]
  rw [turn1, turn1, if_pos (by simp; omega), if_pos h, e, List.set_append_left _ _ h]
theorem turnN_append {l m : List Int} {a : Nat} (b : Int) (k : Nat) (h : a + k ≤ l.length) : turnN a (l ++ m) b k = ((turnN a l b k).1 ++ m, (turnN a l b k).2) := by
  induction k with
  | zero => rfl
  | succ k ih => rw [turnN, ih (by omega), turnN]; simp only; rw [turn1_append _ (by rw [turnN_length]; omega)]
theorem fx4_inj {x y : Int} (hx : 0 ≤ x ∧ x ≤ 4294967295) (hy : 0 ≤ y ∧ y ≤ 4294967295) (h : fxL x 4 = fxL y 4) : x = y := by
  rw [← beI_fx4 hx, h, beI_fx4 hy]
theorem decL_turned {h : Hd} (_hg : h.good) {i : Nat} (hi : i ≤ 40) (b : Int) (hne : (turnN (16 + i) (headL h) b 4).1 ≠ headL h) : decL (turnN (16 + i) (headL h) b 4).1 = (zeroH, 14) := by
  obtain ⟨c, hc⟩ : ∃ c, c = (turnN (16 + i) (headL h) b 4).1 := ⟨_, rfl⟩
  rw [← hc] at hne ⊢
  have hlen : c.length = 64 := by rw [hc, turnN_length, headL_length]
  have hs : c.take 16 = signL := by
    have h1 : c.take (16 + i) = (headL h).take (16 + i) := by rw [hc, turnN_take]
    have h2 := congrArg (List.take 16) h1
    rw [List.take_take, List.take_take, Nat.min_eq_left (by omega)] at h2
    rw [h2]
    simpa using head_sign h []
  have hbody : c = (turnN (16 + i) (bodyL h) b 4).1 ++ fxL (sumI (bodyL h)) 4 := by
    rw [hc, headL, turnN_append b 4 (by rw [bodyL_length]; omega)]
  have hno : ¬ decOk c := by
    rintro ⟨hg', he⟩
    rw [List.take_of_length_le (by omega), headL] at he
    have h60 : (turnN (16 + i) (bodyL h) b 4).1.length = (bodyL (readH c)).length := by rw [turnN_length, bodyL_length, bodyL_length]
    have he' := he.trans hbody
    obtain ⟨e1, e2⟩ := List.append_inj he' h60.symm
    have e3 := fx4_inj (sumI_bd _) (sumI_bd _) e2
    rw [e1] at e3
    have hB := bodyL_isB h
    have e4 := turned_st hB (16 + i) b (sumI_st (turnN_isB hB _ _ _) hB e3)
    apply hne
    rw [hbody, e4]
    rfl
  rw [decL, if_neg (by omega), if_neg (by simp [hs]), if_neg hno]
end Go.Proofs.Ytlehpgokjppccaa
