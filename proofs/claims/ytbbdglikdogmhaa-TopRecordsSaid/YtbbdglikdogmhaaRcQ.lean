/- Records: what is put is read as it was; what is read is put as it stood. Plain. -/
import Derived.Test.YtbbdglikdogmhaaRcM
namespace Go.Proofs.Ytbbdglikdogmhaa
open Go.RowKit
set_option maxRecDepth 100000
set_option linter.unusedVariables false
set_option linter.unusedSimpArgs false
set_option linter.unnecessarySimpa false

theorem mod_splitq (a : Int) (k : Nat) : a % 256 ^ (k + 1) = (a / 256 ^ k % 256) * 256 ^ k + a % 256 ^ k := by
  have hp : (0 : Int) < 256 ^ k := Int.pow_pos (by decide)
  have h1 := Int.mul_ediv_add_emod a (256 ^ k)
  have h2 := Int.mul_ediv_add_emod (a / 256 ^ k) 256
  have h3 := Int.emod_nonneg a (Int.ne_of_gt hp)
  have h4 := Int.emod_lt_of_pos a hp
  have h5 : 0 ≤ a / 256 ^ k % 256 := Int.emod_nonneg _ (by decide)
  have h6 : a / 256 ^ k % 256 < 256 := Int.emod_lt_of_pos _ (by decide)
  generalize hq : a / 256 ^ k / 256 = q at *
  generalize hr : a / 256 ^ k % 256 = r at *
  generalize hs : a % 256 ^ k = s at *
  generalize ha : a / 256 ^ k = d at *
  generalize hP : (256 : Int) ^ k = p at *
  have e : a = (r * p + s) + p * 256 * q := by rw [← h1, ← h2, Int.mul_add]; rw [Int.mul_assoc p 256 q, Int.mul_comm r p]; omega
  rw [Int.pow_succ, hP, e, Int.add_mul_emod_self_left]
  refine Int.emod_eq_of_lt ?_ ?_
  · have := Int.mul_nonneg h5 (Int.le_of_lt hp); omega
  · have h7 : r * p ≤ 255 * p := Int.mul_le_mul_of_nonneg_right (by omega) (Int.le_of_lt hp)
    omega

theorem foldl_fxq (n : Int) (k : Nat) : ∀ a : Int, (fxL n k).foldl (fun a x => a * 256 + x) a = a * 256 ^ k + n % 256 ^ k := by
  induction k with
  | zero => intro a; simp [fxL, Int.emod_one]
  | succ k ih =>
    intro a
    rw [fxL, List.foldl_cons, ih, mod_splitq, Int.add_mul, Int.pow_succ, Int.mul_assoc, Int.mul_comm 256, Int.add_assoc]
theorem beI_fxq (n : Int) (k : Nat) : beI (fxL n k) = n % 256 ^ k := by rw [beI, foldl_fxq]; omega
theorem beI_inj {n : Nat} : ∀ {l m : List Int}, IsB l → IsB m → l.length = n → m.length = n → beI l = beI m → l = m := by
  induction n with
  | zero => intro l m _ _ h1 h2 _; rw [List.eq_nil_of_length_eq_zero h1, List.eq_nil_of_length_eq_zero h2]
  | succ n ih =>
    intro l m hl hm h1 h2 he
    obtain ⟨l', x, rfl⟩ : ∃ l' x, l = l' ++ [x] := ⟨l.dropLast, l.getLast (by intro e; simp [e] at h1), (List.dropLast_concat_getLast _).symm⟩
    obtain ⟨m', y, rfl⟩ : ∃ m' y, m = m' ++ [y] := ⟨m.dropLast, m.getLast (by intro e; simp [e] at h2), (List.dropLast_concat_getLast _).symm⟩
    rw [beI_snoc, beI_snoc] at he
    have hx := hl x (by simp)
    have hy := hm y (by simp)
    obtain rfl : x = y := by omega
    rw [ih (fun z hz => hl z (by simp [hz])) (fun z hz => hm z (by simp [hz])) (by simpa using h1) (by simpa using h2) (show beI l' = beI m' by omega)]

/-- A part of a row. -/
def seg (l : List Int) (a b : Nat) : List Int := (l.drop a).take (b - a)
theorem seg_app (l : List Int) {a b c : Nat} (h1 : a ≤ b) (h2 : b ≤ c) : seg l a b ++ seg l b c = seg l a c := by
  unfold seg
  rw [show c - a = (b - a) + (c - b) by omega, List.take_add, List.drop_drop, show a + (b - a) = b by omega]
theorem seg_all (l : List Int) : seg l 0 l.length = l := by simp [seg]
theorem seg_len {l : List Int} {a b : Nat} (h2 : b ≤ l.length) : (seg l a b).length = b - a := by simp [seg]; omega

theorem widI_fits (n : Int) (h : i64K n) : fitsI n (widI n) := by
  unfold widI
  repeat' split
  all_goals first | assumption | (unfold i64K at h; unfold fitsI; omega)
theorem fits_sgn {n : Int} {k : Nat} (h1 : 1 ≤ k) (h8 : k ≤ 8) (h : fitsI n k) : sgnI (fxL (IntKind.u64.wrap n) k) = n := by
  obtain ⟨x, t, a0, a1, a2, a3, a4, a5⟩ := sgn_form (fxL_isB (IntKind.u64.wrap n) k) (by rw [fxL_length]; exact h1)
  rw [fxL_length] at a3 a4 a5
  rw [beI_fxq, IntKind.wrap_u64] at a4
  rw [a5]
  unfold fitsI at h
  rcases (by omega : k = 1 ∨ k = 2 ∨ k = 3 ∨ k = 4 ∨ k = 5 ∨ k = 6 ∨ k = 7 ∨ k = 8) with rfl | rfl | rfl | rfl | rfl | rfl | rfl | rfl <;> simp only [Nat.reduceSub, Nat.reduceMul, Int.reducePow] at h a3 a4 ⊢ <;> split <;> omega
theorem fx_sgn {b : List Int} (hB : IsB b) {k : Nat} (hk : b.length = k) (h1 : 1 ≤ k) (h8 : k ≤ 8) : fxL (IntKind.u64.wrap (sgnI b)) k = b := by
  refine beI_inj (fxL_isB _ _) hB (fxL_length _ _) hk ?_
  rw [beI_fxq, IntKind.wrap_u64]
  obtain ⟨x, t, a0, a1, a2, a3, a4, a5⟩ := sgn_form hB (by omega)
  rw [hk] at a3 a4 a5
  rw [a5, a4]
  rcases (by omega : k = 1 ∨ k = 2 ∨ k = 3 ∨ k = 4 ∨ k = 5 ∨ k = 6 ∨ k = 7 ∨ k = 8) with rfl | rfl | rfl | rfl | rfl | rfl | rfl | rfl <;> simp only [Nat.reduceSub, Int.reducePow] at a3 ⊢ <;> split <;> omega

/-- One value. -/
theorem read_put (v : Vl) (hv : v.ok) (hw : wrongV v = 0) : readV (codeV v) (bodyV v) = (v, 0) ∧ longI (codeV v) = ((bodyV v).length : Int) ∧ ¬ badC (codeV v) ∧ codeV v ≤ 8209 := by
  obtain ⟨k, n, s⟩ := v
  obtain ⟨_, hn, _⟩ := hv
  have hl := wrong_len hw
  unfold wrongV at hw
  simp only at hw hl hn
  have hp : ¬ (k < 0 ∨ 3 < k ∨ (k ≠ 1 ∧ n ≠ 0) ∨ (k < 2 ∧ s ≠ [])) := by
    intro h
    rw [if_pos h] at hw
    exact absurd hw (by decide)
  have hk : k = 0 ∨ k = 1 ∨ k = 2 ∨ k = 3 := by omega
  have hnz : k ≠ 1 → n = 0 := fun h => Decidable.byContradiction fun h2 => hp (.inr (.inr (.inl ⟨h, h2⟩)))
  have hsz : k < 2 → s = [] := fun h => Decidable.byContradiction fun h2 => hp (.inr (.inr (.inr ⟨h, h2⟩)))
  rcases hk with rfl | rfl | rfl | rfl
  · rw [hnz (by decide), hsz (by decide)]
    decide
  · rw [hsz (by decide)]
    have hc : codeV ⟨1, n, []⟩ = (widI n : Int) := if_pos rfl
    have hb : bodyV ⟨1, n, []⟩ = fxL (IntKind.u64.wrap n) (widI n) := if_pos rfl
    obtain ⟨w1, w8⟩ := widI_bd n
    have hs := fits_sgn w1 w8 (widI_fits n hn)
    rw [hc, hb]
    refine ⟨?_, ?_, ?_, by omega⟩
    · unfold readV
      rw [if_neg (by omega), if_neg (by omega), hs, if_neg (by simp)]
    · unfold longI
      rw [if_pos (by omega), fxL_length]
    · unfold badC; omega
  · have h0 := hnz (by decide)
    subst h0
    have hc : codeV ⟨2, 0, s⟩ = 16 + 2 * (s.length : Int) := by simp [codeV]
    have hb : bodyV ⟨2, 0, s⟩ = s := if_neg (by simp)
    rw [hc, hb]
    refine ⟨?_, ?_, ?_, by omega⟩
    · unfold readV
      rw [if_neg (by omega), if_pos (by omega), show (2 : Int) + (16 + 2 * (s.length : Int)) % 2 = 2 by omega]
    · unfold longI
      rw [if_neg (by omega)]; omega
    · unfold badC; omega
  · have h0 := hnz (by decide)
    subst h0
    have hc : codeV ⟨3, 0, s⟩ = 17 + 2 * (s.length : Int) := by simp [codeV]
    have hb : bodyV ⟨3, 0, s⟩ = s := if_neg (by simp)
    rw [hc, hb]
    refine ⟨?_, ?_, ?_, by omega⟩
    · unfold readV
      rw [if_neg (by omega), if_pos (by omega), show (2 : Int) + (17 + 2 * (s.length : Int)) % 2 = 3 by omega]
    · unfold longI
      rw [if_neg (by omega)]; omega
    · unfold badC; omega
theorem read_back {c : Int} {b : List Int} (hg : ¬ badC c ∧ c ≤ 8209) (hl : (b.length : Int) = longI c) (hB : IsB b) (h : (readV c b).2 = 0) : codeV (takeV c b) = c ∧ bodyV (takeV c b) = b ∧ wrongV (takeV c b) = 0 ∧ (takeV c b).ok := by
  obtain ⟨h1, h2⟩ := hg
  unfold badC at h1
  unfold longI at hl
  by_cases h0 : c = 0
  · subst h0
    have hb : b = [] := List.eq_nil_of_length_eq_zero (by simpa using hl)
    subst hb
    refine ⟨by decide, by decide, by decide, ?_⟩
    unfold Vl.ok i64K IsB
    decide
  by_cases h16 : 16 ≤ c
  · rw [if_neg (by omega)] at hl
    have ht : takeV c b = ⟨2 + c % 2, 0, b⟩ := by unfold takeV; rw [if_neg h0, if_pos h16]
    rw [ht]
    refine ⟨?_, if_neg (by simp only; omega), ?_, ⟨by unfold i64K; simp only; omega, by unfold i64K; simp only; omega, hB⟩⟩
    · unfold codeV
      simp only
      rw [if_neg (by omega)]
      by_cases hp : c % 2 = 0
      · rw [if_pos (by omega)]; omega
      · rw [if_neg (by omega), if_pos (by omega)]; omega
    · unfold wrongV
      simp only
      rw [if_neg ?_, if_neg (by omega)]
      rintro (h | h | h | h)
      · omega
      · omega
      · exact h.2 rfl
      · omega
  · rw [if_pos (by omega)] at hl
    have ht : takeV c b = ⟨1, sgnI b, []⟩ := by unfold takeV; rw [if_neg h0, if_neg h16]
    have hw : (widI (sgnI b) : Int) = c := by
      unfold readV at h
      rw [if_neg h0, if_neg h16] at h
      by_cases hw : (widI (sgnI b) : Int) = c
      · exact hw
      · rw [if_pos hw] at h; exact absurd h (by decide)
    rw [ht]
    have hs := sgn_small hB (by omega) (by omega)
    refine ⟨(if_pos rfl).trans hw, ?_, ?_, ⟨by unfold i64K; simp only; omega, hs, by simp [IsB]⟩⟩
    · show (if (1 : Int) = 1 then _ else _) = _
      rw [if_pos rfl]
      have hk : b.length = widI (sgnI b) := by omega
      simp only
      rw [← hk]
      exact fx_sgn hB rfl (by omega) (by omega)
    · unfold wrongV; simp

theorem codes_back {l : List Int} (hB : IsB l) : ∀ (k a : Nat), a ≤ l.length → (codesV l k a).2.2 = 0 → ∃ q : Nat, (codesV l k a).2.1 = q ∧ a ≤ q ∧ q ≤ l.length ∧ (codesV l k a).1.length = k ∧ GoodC (codesV l k a).1 ∧ ((codesV l k a).1.map varL).flatten = seg l a q := by
  intro k
  induction k with
  | zero => intro a ha _; exact ⟨a, rfl, Nat.le_refl _, ha, rfl, (fun c hc => by simp [codesV] at hc), by simp [codesV, seg]⟩
  | succ k ih =>
    intro a ha h
    by_cases h1 : (unvL l a).2.2 = 0
    case neg => rw [codes_err l k a h1] at h; exact absurd h h1
    by_cases h2 : badC (unvL l a).1
    · rw [codes_bad l k a h1 h2] at h; exact absurd h (by decide)
    by_cases h3 : 8209 < (unvL l a).1
    · rw [codes_long l k a h1 h2 h3] at h; exact absurd h (by decide)
    obtain ⟨q, e1, e2, e3, e4, e5⟩ := unv_at hB a h1
    rw [codes_ok l k a h1 h2 h3, e1] at h ⊢
    have h4 : (codesV l k q).2.2 = 0 := by
      unfold glueI at h
      by_cases hh : (codesV l k q).2.2 = 0
      · exact hh
      · rw [if_pos hh] at h; exact absurd h hh
    obtain ⟨q2, f1, f2, f3, f4, f5, f6⟩ := ih q e3 h4
    have e : glueI [(unvL l a).1] (codesV l k q) = ((unvL l a).1 :: (codesV l k q).1, (q2 : Int), 0) := by unfold glueI; rw [if_neg (by simp [h4]), f1]; rfl
    rw [e]
    refine ⟨q2, rfl, by omega, f3, by simp [f4], ?_, ?_⟩
    · intro c hc
      rcases List.mem_cons.1 hc with rfl | hc
      · exact ⟨h2, by omega⟩
      · exact f5 c hc
    · simp only [List.map_cons, List.flatten_cons]
      rw [f6, e4]
      exact seg_app l (by omega) f2
theorem vals_back {l : List Int} (hB : IsB l) : ∀ (cs : List Int) (a : Nat), GoodC cs → a ≤ l.length → (valsV l cs a).2.2 = 0 → ∃ q : Nat, (valsV l cs a).2.1 = q ∧ a ≤ q ∧ q ≤ l.length ∧ (valsV l cs a).1.length = cs.length ∧ (valsV l cs a).1.map codeV = cs ∧ bodiesB (valsV l cs a).1 = seg l a q ∧ ∀ v ∈ (valsV l cs a).1, wrongV v = 0 ∧ v.ok := by
  intro cs
  induction cs with
  | nil => intro a _ ha _; exact ⟨a, rfl, Nat.le_refl _, ha, rfl, rfl, by simp [valsV, seg, bodiesB], fun v hv => by simp [valsV] at hv⟩
  | cons c cs ih =>
    intro a hg ha h
    have hgc := hg c (List.mem_cons_self ..)
    obtain ⟨g0, g1, g2⟩ := good_bd hgc
    by_cases h1 : (l.length : Int) - a < longI c
    · rw [vals_short l c cs a h1] at h; exact absurd h (by decide)
    obtain ⟨T, hT⟩ : ∃ T : Nat, longI c = T := ⟨(longI c).toNat, by omega⟩
    have hgl : (l.drop (a : Int).toNat).take (longI c).toNat = seg l a (a + T) := by rw [hT, Int.toNat_natCast, Int.toNat_natCast]; unfold seg; rw [show a + T - a = T by omega]
    by_cases h2 : (readV c ((l.drop (a : Int).toNat).take (longI c).toNat)).2 = 0
    case neg => rw [vals_bad l c cs a h1 h2] at h; exact absurd h (by decide)
    rw [vals_ok l c cs a h1 h2] at h ⊢
    rw [hgl] at h h2 ⊢
    rw [hT, show (a : Int) + (T : Int) = ((a + T : Nat) : Int) by push_cast; rfl] at h ⊢
    have h4 : (valsV l cs ((a + T : Nat) : Int)).2.2 = 0 := by
      unfold glueV at h
      by_cases hh : (valsV l cs ((a + T : Nat) : Int)).2.2 = 0
      · exact hh
      · rw [if_pos hh] at h; exact absurd h hh
    have haT : a + T ≤ l.length := by omega
    obtain ⟨q2, f1, f2, f3, f4, f5, f6, f7⟩ := ih (a + T) (fun x hx => hg x (List.mem_cons_of_mem _ hx)) haT h4
    have hsl : (seg l a (a + T)).length = T := by rw [seg_len haT]; omega
    obtain ⟨r1, r2, r3, r4⟩ := read_back (b := seg l a (a + T)) hgc (by rw [hsl, hT]) (fun x hx => hB x (by unfold seg at hx; exact List.mem_of_mem_drop (List.mem_of_mem_take hx))) h2
    have e : glueV [takeV c (seg l a (a + T))] (valsV l cs ((a + T : Nat) : Int)) = (takeV c (seg l a (a + T)) :: (valsV l cs ((a + T : Nat) : Int)).1, (q2 : Int), 0) := by unfold glueV; rw [if_neg (fun hh => hh h4), f1]; rfl
    rw [e]
    refine ⟨q2, rfl, by omega, f3, by rw [List.length_cons, f4, List.length_cons], by rw [List.map_cons, r1, f5], ?_, ?_⟩
    · show (_ :: _ : List (List Int)).flatten = _
      rw [List.flatten_cons, r2]
      exact (congrArg (seg l a (a + T) ++ ·) f6).trans (seg_app l (by omega) f2)
    · intro v hv
      rcases List.mem_cons.1 hv with rfl | hv
      · exact ⟨r3, r4⟩
      · exact f7 v hv
theorem codes_put (F : List Vl) : ∀ (pre post : List Int), (∀ v ∈ F, wrongV v = 0 ∧ v.ok) → codesV (pre ++ (codesB F ++ post)) F.length (pre.length : Int) = (F.map codeV, ((pre.length + (codesB F).length : Nat) : Int), 0) := by
  induction F with
  | nil => intro pre post _; simp [codesV, codesB]
  | cons v F ih =>
    intro pre post h
    obtain ⟨hw, hv⟩ := h v (List.mem_cons_self ..)
    obtain ⟨p1, p2, p3, p4⟩ := read_put v hv hw
    have hcb := code_bd hw
    have e : codesB (v :: F) = varL (codeV v) ++ codesB F := by simp [codesB]
    have u := unv_put pre (codesB F ++ post) (n := codeV v) (by omega)
    have hL : pre ++ (codesB (v :: F) ++ post) = pre ++ (varL (codeV v) ++ (codesB F ++ post)) := by rw [e, List.append_assoc]
    rw [hL, List.length_cons, codes_ok _ _ _ (by rw [u]) (by rw [u]; exact p3) (by rw [u]; simp only; omega), u]
    have := ih (pre ++ varL (codeV v)) post (fun x hx => h x (List.mem_cons_of_mem _ hx))
    rw [List.append_assoc, List.length_append] at this
    simp only
    rw [show (pre.length : Int) + ((varL (codeV v)).length : Int) = ((pre.length + (varL (codeV v)).length : Nat) : Int) by push_cast; rfl, this]
    unfold glueI
    rw [if_neg (by simp), e, List.length_append]
    simp only [List.map_cons, List.singleton_append, Prod.mk.injEq, true_and, and_true]
    omega
theorem vals_put (F : List Vl) : ∀ (pre post : List Int), (∀ v ∈ F, wrongV v = 0 ∧ v.ok) → valsV (pre ++ (bodiesB F ++ post)) (F.map codeV) (pre.length : Int) = (F, ((pre.length + (bodiesB F).length : Nat) : Int), 0) := by
  induction F with
  | nil => intro pre post _; simp [valsV, bodiesB]
  | cons v F ih =>
    intro pre post h
    obtain ⟨hw, hv⟩ := h v (List.mem_cons_self ..)
    obtain ⟨p1, p2, p3, p4⟩ := read_put v hv hw
    have e : bodiesB (v :: F) = bodyV v ++ bodiesB F := by simp [bodiesB]
    have hL : pre ++ (bodiesB (v :: F) ++ post) = pre ++ (bodyV v ++ (bodiesB F ++ post)) := by rw [e, List.append_assoc]
    have hd : ((pre ++ (bodyV v ++ (bodiesB F ++ post))).drop (pre.length : Int).toNat).take (longI (codeV v)).toNat = bodyV v := by
      rw [p2, Int.toNat_natCast, Int.toNat_natCast, List.drop_left, List.take_left]
    rw [hL, List.map_cons, vals_ok _ _ _ _ (by rw [p2]; simp only [List.length_append]; push_cast; omega) (by rw [hd, p1]), hd, ← take_read _ _ (by rw [p1]), p1, p2]
    have := ih (pre ++ bodyV v) post (fun x hx => h x (List.mem_cons_of_mem _ hx))
    rw [List.append_assoc, List.length_append] at this
    rw [show (pre.length : Int) + ((bodyV v).length : Int) = ((pre.length + (bodyV v).length : Nat) : Int) by push_cast; rfl, this]
    unfold glueV
    rw [if_neg (by simp), e, List.length_append]
    simp only [List.singleton_append, Prod.mk.injEq, true_and, and_true]
    omega
theorem encV_zero {F : List Vl} (h : (encV F).2 = 0) : F.length ≤ 64 ∧ firstW F = 0 ∧ (headB F).length + (bodiesB F).length ≤ 16384 ∧ encV F = (headB F ++ bodiesB F, 0) := by
  unfold encV at h ⊢
  by_cases h1 : 64 < F.length
  · rw [if_pos h1] at h; exact absurd h (by decide)
  rw [if_neg h1] at h ⊢
  by_cases h2 : firstW F = 0
  case neg => rw [if_pos h2] at h; exact absurd h h2
  rw [if_neg (by simp [h2])] at h ⊢
  by_cases h3 : 16384 < (headB F).length + (bodiesB F).length
  · rw [if_pos h3] at h; exact absurd h (by decide)
  rw [if_neg h3]
  exact ⟨by omega, h2, by omega, rfl⟩
theorem head_put {F : List Vl} (h : (encV F).2 = 0) : headV (encV F).1 = ((F.length : Int), ((varL (F.length : Int)).length : Int), 0) := by
  obtain ⟨h1, h2, h3, h4⟩ := encV_zero h
  rw [h4]
  have e : headB F ++ bodiesB F = [] ++ (varL (F.length : Int) ++ (codesB F ++ bodiesB F)) := by simp [headB]
  have u := unv_put [] (codesB F ++ bodiesB F) (n := (F.length : Int)) (by omega)
  rw [← e] at u
  have u' : unvL (headB F ++ bodiesB F) 0 = ((F.length : Int), ((varL (F.length : Int)).length : Int), 0) := by simpa using u
  unfold headV
  simp only
  rw [if_neg (by rw [List.length_append]; omega), u']
  simp only
  rw [if_neg (by simp), if_neg (by omega), if_neg (by omega)]
theorem codes_enc {F : List Vl} (h : (encV F).2 = 0) (hok : ∀ v ∈ F, v.ok) : codesV (encV F).1 F.length ((varL (F.length : Int)).length : Int) = (F.map codeV, (((headB F).length : Nat) : Int), 0) := by
  obtain ⟨h1, h2, h3, h4⟩ := encV_zero h
  rw [h4]
  have := codes_put F (varL (F.length : Int)) (bodiesB F) (fun v hv => ⟨firstW_all h2 v hv, hok v hv⟩)
  rw [← List.append_assoc] at this
  have e : (varL (F.length : Int)).length + (codesB F).length = (headB F).length := by simp [headB]
  rw [e] at this
  exact this
theorem vals_enc {F : List Vl} (h : (encV F).2 = 0) (hok : ∀ v ∈ F, v.ok) (n : Nat) : valsV (encV F).1 ((F.map codeV).take n) (((headB F).length : Nat) : Int) = (F.take n, (((headB F).length + (bodiesB (F.take n)).length : Nat) : Int), 0) := by
  obtain ⟨h1, h2, h3, h4⟩ := encV_zero h
  rw [h4, ← List.map_take]
  have := vals_put (F.take n) (headB F) (bodiesB (F.drop n)) (fun v hv => ⟨firstW_all h2 v (List.mem_of_mem_take hv), hok v (List.mem_of_mem_take hv)⟩)
  have e : bodiesB (F.take n) ++ bodiesB (F.drop n) = bodiesB F := by
    unfold bodiesB
    rw [← List.flatten_append, ← List.map_append, List.take_append_drop]
  rwa [e] at this
theorem dec_enc {F : List Vl} (h : (encV F).2 = 0) (hok : ∀ v ∈ F, v.ok) : decV (encV F).1 = (F, 0) := by
  have e1 := head_put h
  have e2 := codes_enc h hok
  have e3 := vals_enc h hok F.length
  rw [List.take_of_length_le (by simp), List.take_of_length_le (Nat.le_refl _)] at e3
  have e4 : ((encV F).1.length : Int) = (((headB F).length + (bodiesB F).length : Nat) : Int) := by rw [(encV_zero h).2.2.2]; simp
  unfold decV
  rw [e1]
  simp only [Int.toNat_natCast]
  rw [e2]
  simp only
  rw [e3]
  simp only
  rw [if_neg (by simp), if_neg (by simp), if_neg (by simp), if_neg (by rw [e4]; simp)]
theorem first_enc {F : List Vl} (h : (encV F).2 = 0) (hok : ∀ v ∈ F, v.ok) (n : Nat) (hn : n ≤ F.length) : firstV (encV F).1 n = (F.take n, 0) := by
  have e1 := head_put h
  have e2 := codes_enc h hok
  have e3 := vals_enc h hok n
  unfold firstV
  rw [e1]
  simp only [Int.toNat_natCast]
  rw [e2]
  simp only
  rw [e3]
  simp only
  rw [if_neg (by omega), if_neg (by simp), if_neg (by omega), if_neg (by simp)]
theorem first_none {F : List Vl} (h : (encV F).2 = 0) (n : Int) (hn : (F.length : Int) < n) : firstV (encV F).1 n = ([], 4) := by
  have e1 := head_put h
  unfold firstV
  rw [e1]
  simp only
  rw [if_neg (by omega), if_neg (by simp), if_pos hn]
theorem head_back {l : List Int} (hB : IsB l) (h : (headV l).2.2 = 0) : l.length ≤ 16384 ∧ ∃ N q : Nat, (headV l).1 = N ∧ N ≤ 64 ∧ (headV l).2.1 = q ∧ q ≤ l.length ∧ varL (N : Int) = seg l 0 q := by
  unfold headV at h ⊢
  by_cases h1 : 16384 < l.length
  · rw [if_pos h1] at h; exact absurd h (by decide)
  rw [if_neg h1] at h ⊢
  by_cases h2 : (unvL l 0).2.2 = 0
  case neg => rw [if_pos h2] at h; exact absurd h h2
  rw [if_neg (by simp [h2])] at h ⊢
  by_cases h3 : (unvL l 0).1 < 0
  · rw [if_pos h3] at h; exact absurd h (by decide)
  rw [if_neg h3] at h ⊢
  by_cases h4 : 64 < (unvL l 0).1
  · rw [if_pos h4] at h; exact absurd h (by decide)
  rw [if_neg h4]
  obtain ⟨q, e1, e2, e3, e4, e5⟩ := unv_at hB 0 (by simpa using h2)
  simp only [Int.natCast_zero, Int.ofNat_zero] at e1 e4
  have e1' : (unvL l 0).2.1 = q := by simpa using e1
  have e4' : varL (unvL l 0).1 = seg l 0 q := by unfold seg; simpa using e4
  obtain ⟨N, hN⟩ : ∃ N : Nat, (unvL l 0).1 = N := ⟨(unvL l 0).1.toNat, by omega⟩
  exact ⟨by omega, N, q, hN, by omega, e1', e3, by rw [← hN]; exact e4'⟩
theorem enc_dec {l : List Int} (hB : IsB l) (h : (decV l).2 = 0) : encV (decV l).1 = (l, 0) ∧ ∀ v ∈ (decV l).1, wrongV v = 0 ∧ v.ok := by
  unfold decV at h ⊢
  by_cases h1 : (headV l).2.2 = 0
  case neg => rw [if_pos h1] at h; exact absurd h h1
  rw [if_neg (by simp [h1])] at h ⊢
  obtain ⟨hlen, N, q, a1, a2, a3, a4, a5⟩ := head_back hB h1
  rw [a1, a3, Int.toNat_natCast] at h ⊢
  by_cases h2 : (codesV l N q).2.2 = 0
  case neg => rw [if_pos h2] at h; exact absurd h h2
  rw [if_neg (by simp [h2])] at h ⊢
  obtain ⟨q2, b1, b2, b3, b4, b5, b6⟩ := codes_back hB N q a4 h2
  rw [b1] at h ⊢
  by_cases h3 : (valsV l (codesV l N q).1 q2).2.2 = 0
  case neg => rw [if_pos h3] at h; exact absurd h h3
  rw [if_neg (by simp [h3])] at h ⊢
  obtain ⟨q3, c1, c2, c3, c4, c5, c6, c7⟩ := vals_back hB _ q2 b5 b3 h3
  rw [c1] at h ⊢
  by_cases h4 : (q3 : Int) = (l.length : Int)
  case neg => rw [if_pos h4] at h; exact absurd h (by decide)
  rw [if_neg (by simp [h4])]
  refine ⟨?_, c7⟩
  simp only
  generalize hV : (valsV l (codesV l N q).1 q2).1 = V at *
  have hVN : V.length = N := by rw [c4, b4]
  have hcodes : codesB V = seg l q q2 := by
    rw [← b6, ← c5]
    unfold codesB
    rw [List.map_map]; rfl
  have hq3 : q3 = l.length := by omega
  have hhead : headB V = seg l 0 q2 := by
    unfold headB
    rw [hVN, a5, hcodes]
    exact seg_app l (Nat.zero_le _) b2
  have hall : headB V ++ bodiesB V = l := by
    rw [hhead, c6, seg_app l (Nat.zero_le _) c2, hq3, seg_all]
  have hfw : firstW V = 0 := by
    clear hV c5 c6 c4 hcodes hhead hall hVN h
    induction V with
    | nil => rfl
    | cons v V ih =>
      show (if wrongV v ≠ 0 then wrongV v else firstW V) = 0
      rw [if_neg (by simp [(c7 v (List.mem_cons_self ..)).1])]
      exact ih (fun x hx => c7 x (List.mem_cons_of_mem _ hx))
  unfold encV
  rw [if_neg (by omega), if_neg (by simp [hfw]), if_neg (by rw [← List.length_append, hall]; omega), hall]
theorem vals_nil (l : List Int) (cs : List Int) (a : Int) (h : (valsV l cs a).2.2 ≠ 0) : (valsV l cs a).1 = [] := by
  have := glueV_nil l cs a
  unfold glueV at this
  rw [if_pos h] at this
  rw [← this]
end Go.Proofs.Ytbbdglikdogmhaa
