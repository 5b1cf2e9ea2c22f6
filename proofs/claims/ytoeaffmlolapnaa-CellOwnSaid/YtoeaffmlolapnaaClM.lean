/- Cells: what is put is read as it was; what is read is put as it stood. Plain. -/
import Derived.Test.YtoeaffmlolapnaaClJ
namespace Go.Proofs.Ytoeaffmlolapnaa
open Go.RowKit

theorem wn_zero {l : List Int} {a lo hi v p : Int} (h : wn l a lo hi = (v, p, 0)) : unvL l a = (v, p, 0) ∧ lo ≤ v ∧ v ≤ hi := by
  obtain ⟨⟨x, q, z⟩, hU⟩ : ∃ U, unvL l a = U := ⟨_, rfl⟩
  by_cases hz : z = 0
  · subst hz
    by_cases hb : x < lo ∨ hi < x
    · rw [wn_form hU hb] at h; simp at h
    · rw [wn_ok hU hb] at h
      simp only [Prod.mk.injEq, and_true] at h
      obtain ⟨rfl, rfl⟩ := h
      exact ⟨hU, by omega, by omega⟩
  · rw [wn_err hU hz] at h
    simp only [Prod.mk.injEq] at h
    exact absurd h.2.2 hz
theorem wn_at {l : List Int} (hB : IsB l) {a : Nat} {lo hi v p : Int} (h : wn l a lo hi = (v, p, 0)) : ∃ q : Nat, p = q ∧ a < q ∧ q ≤ l.length ∧ varL v = (l.drop a).take (q - a) ∧ (-9223372036854775808 ≤ v ∧ v ≤ 9223372036854775807) ∧ lo ≤ v ∧ v ≤ hi := by
  obtain ⟨hU, h1, h2⟩ := wn_zero h
  obtain ⟨q, e1, e2, e3, e4, e5⟩ := unv_at hB a (by rw [hU])
  rw [hU] at e1 e4 e5
  exact ⟨q, e1, e2, e3, e4, e5, h1, h2⟩

/-- A part of a row. -/
def seg (l : List Int) (a b : Nat) : List Int := (l.drop a).take (b - a)
theorem seg_app (l : List Int) {a b c : Nat} (h1 : a ≤ b) (h2 : b ≤ c) : seg l a b ++ seg l b c = seg l a c := by
  unfold seg
  rw [show c - a = (b - a) + (c - b) by omega, List.take_add, List.drop_drop, show a + (b - a) = b by omega]
theorem seg_all (l : List Int) : seg l 0 l.length = l := by simp [seg]
theorem seg_len {l : List Int} {a b : Nat} (h2 : b ≤ l.length) : (seg l a b).length = b - a := by simp [seg]; omega

theorem pay_back {l : List Int} (hB : IsB l) (a : Nat) (_ha : a ≤ l.length) (h : (payD l a).e = 0) :
    ∃ q : Nat, (payD l a).at_ = q ∧ a ≤ q ∧ q ≤ l.length ∧ varL (payD l a).total ++ (varL ((payD l a).loc.length : Int) ++ ((payD l a).loc ++ (if (payD l a).spill = 0 then [] else varL (payD l a).spill))) = seg l a q ∧ goodL (payD l a).total (payD l a).spill (payD l a).loc.length := by
  obtain ⟨⟨v, p, z⟩, hU⟩ : ∃ U, unvL l a = U := ⟨_, rfl⟩
  by_cases hz : z = 0
  case neg => rw [pay_e1 hU hz] at h; exact absurd h hz
  subst hz
  by_cases hb : v < 0 ∨ 16384 < v
  · rw [pay_f1 hU hb] at h; exact absurd h (by decide)
  obtain ⟨q1, rfl, l1, l2, l3, _, _, _⟩ := wn_at hB (wn_ok hU hb)
  obtain ⟨⟨m, p2, z⟩, hU2⟩ : ∃ U, unvL l q1 = U := ⟨_, rfl⟩
  by_cases hz : z = 0
  case neg => rw [pay_e2 hU hb hU2 hz] at h; exact absurd h hz
  subst hz
  by_cases hb2 : m < 0 ∨ v < m
  · rw [pay_f2 hU hb hU2 hb2] at h; exact absurd h (by decide)
  obtain ⟨q2, rfl, k1, k2, k3, _, _, _⟩ := wn_at hB (wn_ok hU2 hb2)
  by_cases hs : (l.length : Int) - q2 < m
  · rw [pay_s hU hb hU2 hb2 hs] at h; exact absurd h (by decide)
  obtain ⟨M, rfl⟩ : ∃ M : Nat, m = M := ⟨m.toNat, by omega⟩
  have hseg : seg l q2 (q2 + M) = (l.drop q2).take M := by unfold seg; rw [show q2 + M - q2 = M by omega]
  have hlen : ((l.drop q2).take M).length = M := by simp; omega
  by_cases hm : (M : Int) = v
  · subst hm
    rw [pay_all hU hb hU2 hb2 hs]
    simp only [Int.toNat_natCast, hlen]
    refine ⟨q2 + M, by simp, by omega, by omega, ?_, ⟨by omega, by omega, Int.le_refl _, fun _ => rfl, fun hh => absurd hh (by omega)⟩⟩
    have t : seg l a q1 ++ (seg l q1 q2 ++ seg l q2 (q2 + M)) = seg l a (q2 + M) := by rw [seg_app l (by omega) (by omega), seg_app l (by omega) (by omega)]
    simp only [if_true, List.append_nil]
    rw [← hseg]
    exact (congrArg (· ++ (varL (M : Int) ++ seg l q2 (q2 + M))) l3).trans ((congrArg (fun x => seg l a q1 ++ (x ++ seg l q2 (q2 + M))) k3).trans t)
  · obtain ⟨⟨s, p3, z⟩, hU3⟩ : ∃ U, unvL l ((q2 : Int) + M) = U := ⟨_, rfl⟩
    by_cases hz : z = 0
    case neg => rw [pay_e3 hU hb hU2 hb2 hs hm hU3 hz] at h; exact absurd h hz
    subst hz
    by_cases hb3 : s < 1 ∨ 1048576 < s
    · rw [pay_f3 hU hb hU2 hb2 hs hm hU3 hb3] at h; exact absurd h (by decide)
    have hU3' : unvL l ((q2 + M : Nat) : Int) = (s, p3, 0) := by rw [← hU3]; congr 1
    obtain ⟨q3, rfl, n1, n2, n3, _, _, _⟩ := wn_at hB (wn_ok hU3' hb3)
    rw [pay_ok hU hb hU2 hb2 hs hm hU3 hb3]
    simp only [Int.toNat_natCast, hlen]
    refine ⟨q3, rfl, by omega, by omega, ?_, ⟨by omega, by omega, by omega, fun hh => absurd hh hm, fun _ => ⟨by omega, by omega⟩⟩⟩
    rw [if_neg (by omega), ← hseg, l3, k3, n3]
    show seg l a q1 ++ (seg l q1 q2 ++ (seg l q2 (q2 + M) ++ seg l (q2 + M) q3)) = _
    rw [seg_app l (by omega) (by omega), seg_app l (by omega) (by omega), seg_app l (by omega) (by omega)]

/-- What is put is read as it was. -/
theorem pay_put (a b : List Int) (c : Cl) (hg : goodL c.total c.spill c.loc.length) (n : Nat) (hn : n = a.length) :
    payD (a ++ ((varL c.total ++ (varL (c.loc.length : Int) ++ (c.loc ++ spillB c))) ++ b)) n = ⟨c.total, c.spill, c.loc, ((a.length : Nat) : Int) + ((varL c.total ++ (varL (c.loc.length : Int) ++ (c.loc ++ spillB c))).length : Nat), 0⟩ := by
  subst hn
  obtain ⟨g1, g2, g3, g4, g5⟩ := hg
  obtain ⟨L, hL⟩ : ∃ L, L = a ++ ((varL c.total ++ (varL (c.loc.length : Int) ++ (c.loc ++ spillB c))) ++ b) := ⟨_, rfl⟩
  rw [← hL]
  have u1 := unv_put a (varL (c.loc.length : Int) ++ (c.loc ++ (spillB c ++ b))) (n := c.total) (by omega)
  have u2 := unv_put (a ++ varL c.total) (c.loc ++ (spillB c ++ b)) (n := (c.loc.length : Int)) (by omega)
  have e1 : a ++ (varL c.total ++ (varL (c.loc.length : Int) ++ (c.loc ++ (spillB c ++ b)))) = L := by rw [hL]; simp [List.append_assoc]
  have e2 : a ++ varL c.total ++ (varL (c.loc.length : Int) ++ (c.loc ++ (spillB c ++ b))) = L := by rw [hL]; simp [List.append_assoc]
  rw [e1] at u1
  rw [e2] at u2
  have hll : (L.length : Int) = a.length + (varL c.total).length + (varL (c.loc.length : Int)).length + c.loc.length + (spillB c).length + b.length := by rw [← e1]; simp only [List.length_append]; push_cast; omega
  have u2' : unvL L ((a.length : Int) + ((varL c.total).length : Nat)) = ((c.loc.length : Int), (a.length : Int) + ((varL c.total).length : Nat) + ((varL (c.loc.length : Int)).length : Nat), 0) := by
    have := u2
    simp only [List.length_append] at this
    push_cast at this
    exact this
  have hd : (L.drop ((a.length : Int) + ((varL c.total).length : Nat) + ((varL (c.loc.length : Int)).length : Nat)).toNat).take ((c.loc.length : Int)).toNat = c.loc := by
    rw [Int.toNat_natCast, show ((a.length : Int) + ((varL c.total).length : Nat) + ((varL (c.loc.length : Int)).length : Nat)).toNat = (a ++ (varL c.total ++ varL (c.loc.length : Int))).length by simp only [List.length_append]; omega]
    rw [← e1, show a ++ (varL c.total ++ (varL (c.loc.length : Int) ++ (c.loc ++ (spillB c ++ b)))) = (a ++ (varL c.total ++ varL (c.loc.length : Int))) ++ (c.loc ++ (spillB c ++ b)) by simp [List.append_assoc], List.drop_left, List.take_left]
  by_cases hm : (c.loc.length : Int) = c.total
  · have hsp := g4 hm
    have hB0 : spillB c = [] := if_pos hsp
    rw [hm] at u2' hd hll
    have := pay_all u1 (by omega) u2' (by omega) (by rw [hll]; omega)
    rw [this, hd, hsp, hm]
    simp only [hB0, List.append_nil, List.length_append, Py.mk.injEq, true_and, and_true]
    push_cast; omega
  · have hP := g5 (by omega)
    unfold isP at hP
    have hB0 : spillB c = varL c.spill := if_neg (by omega)
    have u3 := unv_put (a ++ (varL c.total ++ (varL (c.loc.length : Int) ++ c.loc))) b (n := c.spill) (by omega)
    have e3 : a ++ (varL c.total ++ (varL (c.loc.length : Int) ++ c.loc)) ++ (varL c.spill ++ b) = L := by rw [hL, hB0]; simp [List.append_assoc]
    rw [e3] at u3
    have u3' : unvL L ((a.length : Int) + ((varL c.total).length : Nat) + ((varL (c.loc.length : Int)).length : Nat) + (c.loc.length : Int)) = (c.spill, (a.length : Int) + ((varL c.total).length : Nat) + ((varL (c.loc.length : Int)).length : Nat) + (c.loc.length : Int) + ((varL c.spill).length : Nat), 0) := by
      have := u3
      simp only [List.length_append] at this
      push_cast at this
      rw [show (a.length : Int) + (((varL c.total).length : Int) + (((varL (c.loc.length : Int)).length : Int) + (c.loc.length : Int))) = (a.length : Int) + ((varL c.total).length : Nat) + ((varL (c.loc.length : Int)).length : Nat) + (c.loc.length : Int) by omega] at this
      exact this
    have := pay_ok u1 (by omega) u2' (by omega) (by rw [hll]; omega) hm u3' (by omega)
    rw [this, hd]
    simp only [hB0, List.length_append, Py.mk.injEq, true_and, and_true]
    push_cast; omega

theorem child_back {l : List Int} (hB : IsB l) (k : Int) (h : (childD k l).2.2 = 0) :
    ∃ q : Nat, (childD k l).2.1 = q ∧ q ≤ l.length ∧ (if hasC k then varL (childD k l).1 else []) = seg l 0 q ∧ (hasC k → isP (childD k l).1) ∧ (¬ hasC k → (childD k l).1 = 0) := by
  by_cases hc : hasC k
  · have e : childD k l = wn l 0 1 1048576 := if_pos hc
    rw [e] at h ⊢
    obtain ⟨⟨v, p, z⟩, hU⟩ : ∃ U, wn l 0 1 1048576 = U := ⟨_, rfl⟩
    rw [hU] at h ⊢
    obtain rfl : z = 0 := h
    obtain ⟨q, rfl, l1, l2, l3, _, l4, l5⟩ := wn_at (a := 0) hB (by simpa using hU)
    exact ⟨q, rfl, l2, by rw [if_pos hc]; exact l3, fun _ => ⟨l4, l5⟩, fun h => absurd hc h⟩
  · have e : childD k l = (0, 0, 0) := if_neg hc
    rw [e]
    exact ⟨0, rfl, Nat.zero_le _, by rw [if_neg hc]; simp [seg], fun h => absurd h hc, fun _ => rfl⟩
theorem key_back {l : List Int} (hB : IsB l) (k : Int) (a : Nat) (ha : a ≤ l.length) (h : (keyD k l a).2.2 = 0) :
    ∃ q : Nat, (keyD k l a).2.1 = q ∧ a ≤ q ∧ q ≤ l.length ∧ (if hasK k then varL (keyD k l a).1 else []) = seg l a q ∧ (¬ hasK k → (keyD k l a).1 = 0) ∧ (-9223372036854775808 ≤ (keyD k l a).1 ∧ (keyD k l a).1 ≤ 9223372036854775807) := by
  by_cases hc : hasK k
  · have e : keyD k l a = unvL l a := if_pos hc
    rw [e] at h ⊢
    obtain ⟨q, l1, l2, l3, l4, l5⟩ := unv_at hB a h
    exact ⟨q, l1, by omega, l3, by rw [if_pos hc]; exact l4, fun h => absurd hc h, l5⟩
  · have e : keyD k l a = (0, (a : Int), 0) := if_neg hc
    rw [e]
    exact ⟨a, rfl, Nat.le_refl _, ha, by rw [if_neg hc]; simp [seg], fun _ => rfl, by omega⟩

theorem decC_back {l : List Int} (hB : IsB l) (k : Int) (h : (decC k l).2 = 0) : cellB k (decC k l).1 = l ∧ goodC k (decC k l).1 (decC k l).1.loc.length ∧ (decC k l).1.ok := by
  by_cases hk : isK k
  case neg => rw [show decC k l = (zeroC, 1) from if_pos hk] at h; exact absurd h (by decide)
  by_cases h1 : (childD k l).2.2 = 0
  case neg => rw [dec_child k l hk h1] at h; exact absurd h h1
  by_cases h2 : (keyD k l (childD k l).2.1).2.2 = 0
  case neg => rw [dec_key k l hk h1 h2] at h; exact absurd h h2
  by_cases h3 : (loadD k l (keyD k l (childD k l).2.1).2.1).e = 0
  case neg => rw [dec_load k l hk h1 h2 h3] at h; exact absurd h h3
  by_cases h4 : (loadD k l (keyD k l (childD k l).2.1).2.1).at_ = (l.length : Int)
  case neg => rw [dec_long k l hk h1 h2 h3 h4] at h; exact absurd h (by decide)
  rw [dec_ok k l hk h1 h2 h3 h4]
  obtain ⟨q1, c1, c2, c3, c4, c5⟩ := child_back hB k h1
  rw [c1] at h2 h3 h4 ⊢
  obtain ⟨q2, d1, d2, d3, d4, d5, d6⟩ := key_back hB k q1 c2 h2
  rw [d1] at h3 h4 ⊢
  have hch : -9223372036854775808 ≤ (childD k l).1 ∧ (childD k l).1 ≤ 9223372036854775807 := by
    by_cases hc : hasC k
    · have := c4 hc; unfold isP at this; omega
    · rw [c5 hc]; omega
  by_cases hk2 : k = 2
  · have e : loadD k l q2 = ⟨0, 0, [], q2, 0⟩ := if_pos hk2
    rw [e] at h4 ⊢
    have h4' : q2 = l.length := by simp only at h4; omega
    refine ⟨?_, ⟨hk, c4, c5, d5, fun hh => absurd hk2 hh, fun _ => ⟨rfl, rfl, rfl⟩⟩, ⟨d6, hch, by simp, by simp⟩⟩
    simp only [cellB, childB, keyB, loadB, if_pos hk2, List.append_nil]
    rw [c3, d4, seg_app l (Nat.zero_le _) d2, h4', seg_all]
  · have e : loadD k l q2 = payD l q2 := if_neg hk2
    rw [e] at h3 h4 ⊢
    obtain ⟨q3, e1, e2, e3, e4, e5⟩ := pay_back hB q2 d3 h3
    have e6 : q3 = l.length := by rw [e1] at h4; omega
    refine ⟨?_, ⟨hk, c4, c5, d5, fun _ => e5, fun hh => absurd hh hk2⟩, ⟨d6, hch, ⟨by have := e5.1; simp only; omega, by have := e5.2.1; simp only; omega⟩, ?_⟩⟩
    · simp only [cellB, childB, keyB, loadB, if_neg hk2, spillB]
      rw [c3, d4, e4, seg_app l d2 e2, seg_app l (Nat.zero_le _) (by omega), e6, seg_all]
    · simp only
      obtain ⟨_, _, g3, g4, g5⟩ := e5
      by_cases hm : ((payD l q2).loc.length : Int) = (payD l q2).total
      · rw [g4 hm]; omega
      · have := g5 (by omega); unfold isP at this; omega

theorem cellB_len_pos (k : Int) (c : Cl) : 0 ≤ (cellB k c).length := Nat.zero_le _
theorem decC_put (k : Int) (c : Cl) (hc : c.ok) (hg : goodC k c c.loc.length) : decC k (cellB k c) = (c, 0) := by
  obtain ⟨g1, g2, g3, g4, g5, g6⟩ := hg
  obtain ⟨o1, o2, o3, o4⟩ := hc
  obtain ⟨L, hL⟩ : ∃ L, L = cellB k c := ⟨_, rfl⟩
  rw [← hL]
  have h1 : childD k L = (c.child, ((childB k c).length : Int), 0) := by
    by_cases hk : hasC k
    · have e : childD k L = wn L 0 1 1048576 := if_pos hk
      have b : childB k c = varL c.child := if_pos hk
      have hp := g2 hk
      unfold isP at hp
      have := unv_put [] (keyB k c ++ loadB k c) o2
      rw [List.nil_append, ← b] at this
      have hL' : childB k c ++ (keyB k c ++ loadB k c) = L := hL.symm
      rw [hL'] at this
      rw [e]
      have h2 := wn_ok (lo := 1) (hi := 1048576) this (by omega)
      simpa using h2
    · have e : childD k L = (0, 0, 0) := if_neg hk
      have b : childB k c = [] := if_neg hk
      rw [e, b, g3 hk]; rfl
  have h2 : keyD k L ((childB k c).length : Int) = (c.key, (((childB k c).length + (keyB k c).length : Nat) : Int), 0) := by
    by_cases hk : hasK k
    · have e : keyD k L ((childB k c).length : Int) = unvL L ((childB k c).length : Int) := if_pos hk
      have b : keyB k c = varL c.key := if_pos hk
      have := unv_put (childB k c) (loadB k c) o1
      rw [← b, show childB k c ++ (keyB k c ++ loadB k c) = L from hL.symm] at this
      rw [e, this]; push_cast; rfl
    · have e : keyD k L ((childB k c).length : Int) = (0, ((childB k c).length : Int), 0) := if_neg hk
      have b : keyB k c = [] := if_neg hk
      rw [e, b, g4 hk]; simp
  have h3 : loadD k L (((childB k c).length + (keyB k c).length : Nat) : Int) = ⟨c.total, c.spill, c.loc, (L.length : Int), 0⟩ := by
    by_cases hk : k = 2
    · have e : loadD k L (((childB k c).length + (keyB k c).length : Nat) : Int) = ⟨0, 0, [], (((childB k c).length + (keyB k c).length : Nat) : Int), 0⟩ := if_pos hk
      have b : loadB k c = [] := if_pos hk
      obtain ⟨f1, f2, f3⟩ := g6 hk
      rw [e, f1, f3, List.eq_nil_of_length_eq_zero f2, hL]
      simp [cellB, b]
    · have e : loadD k L (((childB k c).length + (keyB k c).length : Nat) : Int) = payD L (((childB k c).length + (keyB k c).length : Nat) : Int) := if_neg hk
      have b : loadB k c = varL c.total ++ (varL (c.loc.length : Int) ++ (c.loc ++ spillB c)) := if_neg hk
      have := pay_put (childB k c ++ keyB k c) [] c (g5 hk) ((childB k c).length + (keyB k c).length) (by simp)
      rw [← b, List.append_nil, List.append_assoc, show childB k c ++ (keyB k c ++ loadB k c) = L from hL.symm] at this
      rw [e, this]
      simp only [Py.mk.injEq, true_and, and_true]
      rw [hL]
      simp only [cellB, List.length_append]; push_cast; omega
  have e1 : (childD k L).2.1 = ((childB k c).length : Int) := by rw [h1]
  have e2 : (keyD k L (childD k L).2.1).2.1 = (((childB k c).length + (keyB k c).length : Nat) : Int) := by rw [e1, h2]
  rw [dec_ok k L g1 (by rw [h1]) (by rw [e1, h2]) (by rw [e2, h3]) (by rw [e2, h3]), e2, e1, h1, h2, h3]
end Go.Proofs.Ytoeaffmlolapnaa
