/- Walk: tomelaw11.awake; the walk of the law JourWrites. -/
import Derived.Test.YtlehpgokjppccaaJrF
namespace Go.Proofs.Ytlehpgokjppccaa
open Go.RowKit
set_option maxRecDepth 100000

def JYes (w : World) (e : Ending) (w' : World) : Prop := e = .returned (.bool true) ∧ Below w.heap.size w w'
set_option maxHeartbeats 4000000 in
theorem jawake_any (w : World) : Calls Try.prog 21 #[] w (JYes w) := by
  have hst : startL 256 0 0 = S0 := if_pos (by decide)
  have hse : startE 256 0 = 0 := if_pos (by decide)
  have hmk : ∀ W : World, (Instr.makeSlice 24 (.int .i64 27) (.int .i64 27)).run Try.prog W = .ok (.slice (some ⟨W.heap.size, 0, none⟩) 27 27) (W.alloc (.cells (zrs 27) 5)) := fun W => run_mk 27 27 (Nat.le_refl _) (by decide) W
  have HST := Lib.hid hst; clear hst
  have HSE := Lib.hid hse; clear hse
  go_enter Try.func21, Try.ntmps21
  go_wp2_with fail
  refine (jStart_any _ 256 0 0 (by unfold i64ok; omega) (by unfold i64ok; omega) (by omega)).mono ?_
  rintro e w1 ⟨A, n, c, rfl, h1, h2, h3, h4, h5⟩
  rw [HST.out] at h1 h4
  rw [S0_length] at h1
  subst h1
  simp only [HSE.out]
  have HA := Lib.hid h4; clear h4
  go_wp2_with fail
  refine (scan_start _ A c h2 h3 HA.out _ rfl).mono ?_
  rintro e w2 ⟨rfl, hb2⟩
  have hB2 := h5.trans (hb2.mono h5.size)
  clear hb2
  go_wp2_with fail
  refine (scan_short _ _ 27 27 (by decide)).mono ?_
  rintro e w3 ⟨rfl, rfl⟩
  go_wp2
  go_ret
  exact ⟨rfl, hB2.alloc hB2.size _⟩

/-- A frame lies in a block. -/
def FrAt (w : World) (g : Nat) (pg cm : Int) (A : Option Addr) (n c : Nat) : Prop := w.cell? ⟨g, 0, none⟩ = some (.int .i64 pg) ∧ w.cell? ⟨g, 1, none⟩ = some (.int .i64 cm) ∧ w.cell? ⟨g, 2, none⟩ = some (.slice A n c)
theorem FrAt.keep {w w' : World} {g : Nat} {pg cm : Int} {A : Option Addr} {n c : Nat} (h : FrAt w g pg cm A n c) (hb : Below w.heap.size w w') : FrAt w' g pg cm A n c :=
  ⟨(hb.cell (World.block_lt_of_cell? _ _ h.1)).trans h.1, (hb.cell (World.block_lt_of_cell? _ _ h.2.1)).trans h.2.1, (hb.cell (World.block_lt_of_cell? _ _ h.2.2)).trans h.2.2⟩

set_option maxHeartbeats 4000000 in
theorem jwrites_walk (w : World) (s p pg cm : Int) (A : Option Addr) (n c : Nat) (l : List Int) (hs : i64ok s) (hp : i64ok p) (hpg : i64ok pg) (hcm' : i64ok cm) (hn : l.length = n) (hnc : n ≤ c) (hcm : c ≤ maxLen) (hA : Rd w A l) (hB : IsB l) :
    Calls Try.prog 7 #[.int .i64 s, .int .i64 p, .agg #[.int .i64 pg, .int .i64 cm, .slice A n c]] w (JYes w) := by
  have HS := Lib.hid hs; clear hs
  have HP := Lib.hid hp; clear hp
  have HPG := Lib.hid hpg; clear hpg
  have HCM := Lib.hid hcm'; clear hcm'
  have HN := Lib.hid hn; clear hn
  have HA := Lib.hid hA; clear hA
  have HB := Lib.hid hB; clear hB
  have HCC := Lib.hid hcm; clear hcm
  obtain ⟨W1, hW1⟩ : ∃ W, W = w.alloc (.cells #[.int .i64 pg, .int .i64 cm, .slice A n c] 53) := ⟨_, rfl⟩
  have hbW : Below w.heap.size w W1 := by rw [hW1]; exact (Below.refl _ _).alloc (Nat.le_refl _) _
  have hsW : W1.heap.size = w.heap.size + 1 := by rw [hW1]; simp
  have hat : FrAt W1 w.heap.size pg cm A n c := by
    rw [hW1]
    exact ⟨by simp [go_sem], by simp [go_sem], by simp [go_sem]⟩
  have HT := Lib.hid hat; clear hat
  have HW := Lib.hid hW1
  go_enter Try.func7, Try.ntmps7
  go_wp2_with fail
  rw [← hW1]
  clear hW1 HW
  refine (jawake_any _).mono ?_
  rintro e w1 ⟨rfl, hb1⟩
  have hB1 : Below w.heap.size w w1 := hbW.trans (hb1.mono (by omega))
  have HT1 := Lib.hid (HT.out.keep hb1); clear HT
  clear hb1
  obtain ⟨k0, k1, k2⟩ := HT1.out
  by_cases hg : 10000 < n
  · go_wp2_with fail
    refine (jawake_any _).mono ?_
    rintro e w2 ⟨rfl, hb2⟩
    have hB2 := hB1.trans (hb2.mono hB1.size)
    go_wp2
    go_ret
    exact ⟨rfl, hB2⟩
  · go_wp2_with fail
    have hKb := u64_wrap_bd (IntKind.u64.wrap (IntKind.u64.wrap s * 1000003) + IntKind.u64.wrap p)
    generalize IntKind.u64.wrap (IntKind.u64.wrap (IntKind.u64.wrap s * 1000003) + IntKind.u64.wrap p) = K at hKb ⊢
    have HK := Lib.hid hKb; clear hKb
    refine (jStart_any _ s p K HS.out HP.out HK.out).mono ?_
    rintro e w2 ⟨A2, n2, c2, rfl, a1, a2, a3, a4, hb2⟩
    have hB2 := hB1.trans (hb2.mono hB1.size)
    have HT2 := Lib.hid (HT1.out.keep hb2)
    have R2 := Lib.hid a4; clear a4 hb2 HT1 k0 k1 k2
    have N2 := Lib.hid a1; clear a1
    obtain ⟨k0, k1, k2⟩ := HT2.out
    go_wp2_with fail
    refine (jEntry_any _ K pg cm A n c l HK.out HPG.out HCM.out HN.out hnc HCC.out (HA.out.keep hB2) HB.out).mono ?_
    rintro e w3 ⟨A3, n3, c3, rfl, b1, b2, b3, b4, hb3⟩
    have hB3 := hB2.trans (hb3.mono hB2.size)
    have HT3 := Lib.hid (HT2.out.keep hb3)
    have R2' := Lib.hid (R2.out.keep hb3); clear R2
    have R3 := Lib.hid b4; clear b4 hb3 HT2 k0 k1 k2
    have N3 := Lib.hid b1; clear b1
    obtain ⟨k0, k1, k2⟩ := HT3.out
    go_wp2_with fail
    refine (rjStart_any _ s p K HS.out HP.out HK.out).mono ?_
    rintro e w4 ⟨A4, n4, c4, rfl, d1, d2, d3, d4, hb4⟩
    have hB4 := hB3.trans (hb4.mono hB3.size)
    have HT4 := Lib.hid (HT3.out.keep hb4)
    have R2 := Lib.hid (R2'.out.keep hb4); clear R2'
    have R3' := Lib.hid (R3.out.keep hb4); clear R3
    have R4 := Lib.hid d4; clear d4 hb4 HT3 k0 k1 k2
    have N4 := Lib.hid d1; clear d1
    obtain ⟨k0, k1, k2⟩ := HT4.out
    go_wp2_with fail
    refine (rjEntry_any _ K pg cm A n c l HK.out HPG.out HCM.out HN.out hnc HCC.out (HA.out.keep hB4) HB.out).mono ?_
    rintro e w5 ⟨A5, n5, c5, rfl, f1, f2, f3, f4, hb5⟩
    have hB5 := hB4.trans (hb5.mono hB4.size)
    have R2' := Lib.hid (R2.out.keep hb5); clear R2
    have R3 := Lib.hid (R3'.out.keep hb5); clear R3'
    have R4' := Lib.hid (R4.out.keep hb5); clear R4
    have R5 := Lib.hid f4; clear f4 hb5 HT4 k0 k1 k2
    have N5 := Lib.hid f1; clear f1
    generalize startE s p = x1
    generalize entE pg cm n = x2
    go_wp2_with fail
    refine (same1_any _ A2 A4 n2 c2 n4 c4 _ _ N2.out N4.out (by unfold maxLen at a3; omega) R2'.out R4'.out).mono ?_
    rintro e w6 ⟨rfl, hb6⟩
    simp only [beqL_self]
    have hB6 := hB5.trans (hb6.mono hB5.size)
    have R3' := Lib.hid (R3.out.keep hb6); clear R3
    have R5' := Lib.hid (R5.out.keep hb6); clear R5 hb6
    go_wp2_with fail
    refine (same1_any _ A3 A5 n3 c3 n5 c5 _ _ N3.out N5.out (by unfold maxLen at b3; omega) R3'.out R5'.out).mono ?_
    rintro e w7 ⟨rfl, hb7⟩
    simp only [beqL_self]
    have hB7 := hB6.trans (hb7.mono hB6.size)
    clear hb7
    go_wp2
    go_ret
    exact ⟨rfl, hB7⟩
end Go.Proofs.Ytlehpgokjppccaa
