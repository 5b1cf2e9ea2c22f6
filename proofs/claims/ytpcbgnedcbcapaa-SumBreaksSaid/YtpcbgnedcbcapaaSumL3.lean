/- The walk of the law SumSeals. -/
import Derived.Test.YtpcbgnedcbcapaaSumL2
namespace Go.Proofs.Ytpcbgnedcbcapaa
open Go.RowKit

/-- Bytes, and their sum behind. -/
def sealL (l : List Int) : List Int := l ++ foot4 (sumI l)
theorem sealL_isB {l : List Int} (h : IsB l) : IsB (sealL l) := h.append (foot4_isB _ (sumI_bd l).1 (sumI_bd l).2)
theorem sealL_length (l : List Int) : (sealL l).length = l.length + 4 := by simp [sealL, foot4]
theorem rseal2_any (w : World) (A : Option Addr) (n c : Nat) (l : List Int) (hn : l.length = n) (hm : n ≤ 140737488351232) (hA : Rd w A l) (il : IsB l) :
    Calls Try.prog 21 #[.slice A n c] w (BytesBack w (sealL l)) := by
  have := rseal_any w A n c l hn hm hA il
  rw [sum_ref il, le_foot _ (sumI_bd l).1 (sumI_bd l).2] at this
  exact this
/-- The last four bytes, as they stand. -/
theorem last4 {l : List Int} {m : Nat} (h : l.length = m + 4) : l.drop m = [bt l m, bt l (m + 1), bt l (m + 2), bt l (m + 3)] := by
  rw [bt_lt (by omega), bt_lt (by omega), bt_lt (by omega), bt_lt (by omega)]
  apply List.ext_getElem
  · simp; omega
  · intro i h1 h2
    simp at h2
    rcases (by omega : i = 0 ∨ i = 1 ∨ i = 2 ∨ i = 3) with rfl | rfl | rfl | rfl <;> simp
/-- What Sealed tells of bytes: are they sealed? -/
theorem sealedB {l : List Int} {m : Nat} (h : l.length = m + 4) :
    beqL [sumI (l.take m) % 256, sumI (l.take m) / 256 % 256, sumI (l.take m) / 65536 % 256, sumI (l.take m) / 16777216] [bt l m, bt l (m + 1), bt l (m + 2), bt l (m + 3)] = beqL l (sealL (l.take m)) := by
  rw [Bool.eq_iff_iff, beqL_iff, beqL_iff, ← last4 h]
  show foot4 (sumI (l.take m)) = l.drop m ↔ l = sealL (l.take m)
  unfold sealL
  constructor
  · intro e
    rw [e, List.take_append_drop]
  · intro e
    have e1 : l.take m ++ l.drop m = l.take m ++ foot4 (sumI (l.take m)) := by rw [List.take_append_drop]; exact e
    exact (List.append_cancel_left e1).symm
theorem sealed2_any (w : World) (A : Option Addr) (n c : Nat) (l : List Int) (hn : l.length = n + 4) (hnc : n + 4 ≤ c) (hm : c ≤ maxLen) (hA : Rd w A l) (il : IsB l) :
    Calls Try.prog 22 #[.slice A ((n + 4 : Nat) : Nat) c] w fun e w' => e = .returned (.bool (beqL l (sealL (l.take n)))) ∧ Below w.heap.size w w' := by
  rw [← sealedB hn]; exact sealed_any w A n c l hn hnc hm hA il
theorem sealed_self (l : List Int) {n : Nat} (h : l.length = n) : beqL (sealL l) (sealL ((sealL l).take n)) = true := by
  rw [beqL_iff]
  congr 1
  subst h
  simp [sealL]

theorem rd_take {w : World} {A : Option Addr} {l : List Int} (h : Rd w A l) (n : Nat) : Rd w A (l.take n) := by
  rcases h with rfl | ⟨b, off, rfl, hc⟩
  · exact .inl (by simp)
  · refine .inr ⟨b, off, rfl, fun i hi => ?_⟩
    have hi2 : i < l.length := by simp at hi; omega
    rw [hc i hi2, bt_lt hi2, bt_lt hi]
    simp

set_option maxRecDepth 100000 in
set_option maxHeartbeats 8000000 in
theorem seals_walk (w : World) (A : Option Addr) (n c : Nat) (l : List Int) (hn : l.length = n) (hnc : n ≤ c) (hcm : c ≤ maxLen) (hA : Rd w A l) (hB : IsB l) :
    Calls Try.prog 5 #[.slice A n c] w (Yes w) := by
  have hm : c ≤ 9223372036854775807 := by unfold maxLen at hcm; omega
  have HC := Lib.hid hcm; clear hcm
  have HN := Lib.hid hn; clear hn
  have HL := Lib.hid hA; clear hA
  have HB := Lib.hid hB; clear hB
  go_enter Try.func5, Try.ntmps5
  go_wp2_with fail
  refine (awake_any _).mono ?_
  rintro e w1 ⟨rfl, hb1'⟩
  have hs1 := hb1'.size
  by_cases hg : 10000 < n
  · go_wp2_with fail
    refine (awake_any _).mono ?_
    rintro e w2 ⟨rfl, hb2⟩
    have hB2 := hb1'.trans (hb2.mono hs1)
    go_wp2
    go_ret
    exact ⟨rfl, hB2⟩
  · go_wp2_with (at_builtin; refine wp_append rfl (.tmp 13) (.tmp 14) rfl w1.heap.size _ _ _ [] rfl (OwnB.lit w1 #[] [] _ 0 rfl rfl (Nat.le_refl _) (by decide)) A n c l rfl HN.out ((HL.out.keep hb1').keep ((Below.refl _ _).alloc (Nat.le_refl _) _)) (by omega) (by simp) ?_; intro A1 c1 w2 hown1 _ hb2')
    have hb2 : Below w1.heap.size w1 w2 := ((Below.refl _ _).alloc (Nat.le_refl _) _).trans hb2'
    have hB2 := hb1'.trans (hb2.mono hs1)
    have hs2 := hB2.size
    simp only [Nat.zero_add, List.nil_append] at hown1
    have HO1 := Lib.hid hown1; clear hown1 hb2' hb2
    have hm1 := HO1.out.cap
    refine (seal_any _ A1 n c1 l HN.out hm1.1 hm1.2 (by omega) HO1.out.rd HB.out).mono ?_
    rintro e w3 ⟨A3, n3, c3, rfl, hown3, hb3⟩
    have HO1' := Lib.hid (HO1.out.keep hb3)
    have hB3 := hB2.trans (hb3.mono hs2)
    have hs3 := hB3.size
    have hown3' : OwnB w3 w2.heap.size A3 n3 c3 (sealL l) := hown3
    have HO3 := Lib.hid hown3'; clear hown3 hown3' hb3
    go_wp2_with fail
    refine (rseal2_any _ A n c l HN.out (by omega) (HL.out.keep hB3) HB.out).mono ?_
    rintro e w4 ⟨A4, n4, c4, rfl, hown4, hb4⟩
    have HO1'' := Lib.hid (HO1'.out.keep hb4)
    have HO3' := Lib.hid (HO3.out.keep hb4)
    have hB4 := hB3.trans (hb4.mono hs3)
    have hs4 := hB4.size
    have HO4 := Lib.hid hown4; clear hown4 hb4
    go_wp2_with fail
    refine (same2_any _ A3 A4 n3 c3 n4 c4 (sealL l) (sealL l) HO3'.out.len HO4.out.len HO3'.out.rd HO4.out.rd (sealL_isB HB.out) (sealL_isB HB.out)).mono ?_
    rintro e w5 ⟨rfl, rfl⟩
    simp only [beqL_self]
    have hn3 : n + 4 = n3 := by rw [← HO3.out.len, sealL_length, HN.out]
    subst hn3
    have hm3 := HO3.out.cap
    go_wp2_with fail
    refine (sealed2_any _ A3 n c3 (sealL l) HO3.out.len hm3.1 hm3.2 HO3'.out.rd (sealL_isB HB.out)).mono ?_
    rintro e w6 ⟨rfl, hb6⟩
    have HO1''' := Lib.hid (HO1''.out.keep hb6)
    have hB6 := hB4.trans (hb6.mono hs4)
    have hs6 := hB6.size
    simp only [sealed_self l HN.out]
    clear hb6
    go_wp2_with fail
    refine (same2_any _ A1 A n c1 n c l l HN.out HN.out HO1'''.out.rd (HL.out.keep hB6) HB.out HB.out).mono ?_
    rintro e w7 ⟨rfl, rfl⟩
    simp only [beqL_self]
    by_cases h4 : n < 4
    · go_wp2_with fail
      refine (sealed_short _ A n c h4).mono ?_
      rintro e w8 ⟨rfl, hb8⟩
      have hB8 := hB6.trans (hb8.mono hs6)
      go_wp2
      go_ret
      exact ⟨rfl, hB8⟩
    · obtain ⟨m, rfl⟩ : ∃ m, n = m + 4 := ⟨n - 4, by omega⟩
      rcases Nat.eq_zero_or_pos m with rfl | hm0
      · go_wp2_with fail
        refine (sealed2_any _ A 0 c l HN.out hnc HC.out (HL.out.keep hB6) HB.out).mono ?_
        rintro e w8 ⟨rfl, hb8⟩
        have hB8 := hB6.trans (hb8.mono hs6)
        have hs8 := hB8.size
        have hR8 := rd_take (HL.out.keep hB8) 0
        clear hb8
        obtain ⟨q, hq⟩ : ∃ x, x = beqL l (sealL (l.take 0)) := ⟨_, rfl⟩
        rw [← hq]
        have HQ := Lib.hid hq; clear hq
        have HR8 := Lib.hid hR8; clear hR8
        go_wp2_with fail
        refine (rseal2_any _ A 0 c (l.take 0) (by rw [List.length_take, HN.out]; omega) (by omega) HR8.out (HB.out.take _)).mono ?_
        rintro e w9 ⟨A9, n9, c9, rfl, hown9, hb9⟩
        have hB9 := hB8.trans (hb9.mono hs8)
        have HO9 := Lib.hid hown9; clear hown9 hb9
        go_wp2_with fail
        refine (same2_any _ A A9 _ c n9 c9 l (sealL (l.take 0)) HN.out HO9.out.len (HL.out.keep hB9) HO9.out.rd HB.out (sealL_isB (HB.out.take _))).mono ?_
        rintro e w10 ⟨rfl, rfl⟩
        rw [← HQ.out]
        have hqq : (q == q) = true := by cases q <;> rfl
        go_wp2
        go_ret
        exact ⟨rfl, hB9⟩
      · go_wp2_with fail
        refine (sealed2_any _ A m c l HN.out hnc HC.out (HL.out.keep hB6) HB.out).mono ?_
        rintro e w8 ⟨rfl, hb8⟩
        have hB8 := hB6.trans (hb8.mono hs6)
        have hs8 := hB8.size
        have hR8 := rd_take (HL.out.keep hB8) m
        clear hb8
        obtain ⟨q, hq⟩ : ∃ x, x = beqL l (sealL (l.take m)) := ⟨_, rfl⟩
        rw [← hq]
        have HQ := Lib.hid hq; clear hq
        have HR8 := Lib.hid hR8; clear hR8
        go_wp2_with fail
        refine (rseal2_any _ A m c (l.take m) (by rw [List.length_take, HN.out]; omega) (by omega) HR8.out (HB.out.take _)).mono ?_
        rintro e w9 ⟨A9, n9, c9, rfl, hown9, hb9⟩
        have hB9 := hB8.trans (hb9.mono hs8)
        have HO9 := Lib.hid hown9; clear hown9 hb9
        go_wp2_with fail
        refine (same2_any _ A A9 _ c n9 c9 l (sealL (l.take m)) HN.out HO9.out.len (HL.out.keep hB9) HO9.out.rd HB.out (sealL_isB (HB.out.take _))).mono ?_
        rintro e w10 ⟨rfl, rfl⟩
        rw [← HQ.out]
        have hqq : (q == q) = true := by cases q <;> rfl
        go_wp2
        go_ret
        exact ⟨rfl, hB9⟩
end Go.Proofs.Ytpcbgnedcbcapaa
