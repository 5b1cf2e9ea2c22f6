/- Walks: a nil page; live; SlotsNobody. -/
import Derived.Test.YtoeaffmlolapnaaSlT
import Derived.Test.YtoeaffmlolapnaaSlV
import Derived.Lib.SmallJoins
namespace Go.Proofs.Ytoeaffmlolapnaa
open Go.RowKit
set_option maxRecDepth 100000
set_option linter.unusedVariables false
set_option linter.unusedSimpArgs false
set_option linter.unnecessarySimpa false

def newM (n h : Nat) : Mdl := ⟨n, List.replicate h 0, [], []⟩
theorem new_good {n h : Nat} (hm : mayP n h) : Good (newM n h) := by
  obtain ⟨h1, h2, h3, h4⟩ := hm
  have hk : (newM n h).k = 0 := rfl
  have hh : (newM n h).h = h := by simp [newM, Mdl.h]
  have hn : (newM n h).n = n := rfl
  refine ⟨by rw [hn]; omega, by rw [hn]; omega, by rw [hh]; omega, rfl, ?_, fun j hj => ?_, fun j hj => ?_, fun i j hij hj => ?_, isB_zeros h, fun c hc => ?_, ?_⟩
  · unfold Mdl.used; rw [hh, hk, hn]; omega
  · rw [hk] at hj; omega
  · rw [hk] at hj; omega
  · rw [hk] at hj; omega
  · simp [newM] at hc
  · unfold Mdl.used; rw [hh, hk, hn]; simp [newM]; omega
theorem new_page {n h : Nat} (hm : mayP n h) : IsP (List.replicate n 0) (newM n h) := by
  have hk : (newM n h).k = 0 := rfl
  have hh : (newM n h).h = h := by simp [newM, Mdl.h]
  refine ⟨by simp [newM], isB_zeros n, fun i hi => ?_, ?_, fun j hj => ?_, fun j hj => ?_, fun j hj => ?_, fun x _ _ _ => bt_zeros _ _⟩
  · rw [bt_zeros]; exact (bt_zeros h i).symm
  · rw [hk]; unfold tw; rw [bt_zeros, bt_zeros]; rfl
  · rw [hk] at hj; omega
  · rw [hk] at hj; omega
  · rw [hk] at hj; omega
theorem new_h (n h : Nat) : (newM n h).h = h := by simp [newM, Mdl.h]

set_option maxHeartbeats 4000000 in
theorem nilCell (w : World) (i : Int) : Calls Try.prog 21 #[.pointer none, .int .i64 i] w fun e w' => e = .returned (.tuple #[.slice none 0 0, .int .i64 2]) ∧ w = w' := by
  go_enter Try.func21, Try.ntmps21
  go_wp2_with fail
  go_ret2
  exact ⟨rfl, rfl⟩
set_option maxHeartbeats 4000000 in
theorem nilPack (w : World) (R : Ending → World → Prop) (hR : R = fun e w' => e = .returned (.tuple #[]) ∧ w = w') : Calls Try.prog 28 #[.pointer none] w R := by
  have HR := Lib.hid hR; clear hR
  go_enter Try.func28, Try.ntmps28
  go_wp2
  refine bodyPost_ret (v := .tuple #[]) (by first | rfl | kernel_rfl | simp [results]) rfl ?_
  rw [HR.out]
  exact ⟨rfl, rfl⟩
set_option maxHeartbeats 4000000 in
theorem nilInsert (w : World) (i : Int) (A : Option Addr) (n c : Nat) : Calls Try.prog 29 #[.pointer none, .int .i64 i, .slice A n c] w fun e w' => e = .returned (.int .i64 2) ∧ w = w' := by
  go_enter Try.func29, Try.ntmps29
  go_wp2_with fail
  go_ret
  exact ⟨rfl, rfl⟩
set_option maxHeartbeats 4000000 in
theorem nilRemove (w : World) (i : Int) : Calls Try.prog 30 #[.pointer none, .int .i64 i] w fun e w' => e = .returned (.int .i64 2) ∧ w = w' := by
  go_enter Try.func30, Try.ntmps30
  go_wp2_with fail
  go_ret
  exact ⟨rfl, rfl⟩
set_option maxHeartbeats 4000000 in
theorem nilMany (w : World) : Calls Try.prog 22 #[.pointer none] w fun e w' => e = .returned (.int .i64 0) ∧ w = w' := by
  go_enter Try.func22, Try.ntmps22
  go_wp2_with fail
  go_ret
  exact ⟨rfl, rfl⟩
set_option maxHeartbeats 4000000 in
theorem nilRoom (w : World) : Calls Try.prog 27 #[.pointer none] w fun e w' => e = .returned (.int .i64 0) ∧ w = w' := by
  go_enter Try.func27, Try.ntmps27
  go_wp2_with fail
  go_ret
  exact ⟨rfl, rfl⟩
set_option maxHeartbeats 4000000 in
theorem nilBytes (w : World) : Calls Try.prog 26 #[.pointer none] w fun e w' => e = .returned (.slice none 0 0) ∧ w = w' := by
  go_enter Try.func26, Try.ntmps26
  go_wp2_with fail
  go_ret
  exact ⟨rfl, rfl⟩

def LiveYes (w : World) (e : Ending) (w' : World) : Prop := e = .returned (.bool true) ∧ Below w.heap.size w w'
def liveM : Mdl := ⟨256, List.replicate 8 0, [[97, 98]], [252]⟩
theorem live_room : (newM 256 8).room = 242 := by decide +kernel
theorem live_ins : insM (newM 256 8) 0 [97, 98] = (liveM, 0) := by
  have e1 : ((newM 256 8).room1 2) = newM 256 8 := if_neg (by decide +kernel)
  unfold insM
  rw [if_neg (by decide +kernel), if_neg (by decide +kernel)]
  show (((newM 256 8).room1 2).ins _ _ _, 0) = _
  rw [e1]
  rfl
theorem live_head {L : List Int} (p : IsP L liveM) : (L.drop 8).take 4 = [0, 1, 0, 252] := by
  have hl : L.length = 256 := p.len
  have h1 : 256 * bt L 8 + bt L 9 = 1 := p.many
  have h2 : 256 * bt L 10 + bt L 11 = 252 := p.slots 0 (by decide)
  have b0 := IsB.bt p.byts 8
  have b1 := IsB.bt p.byts 9
  have b2 := IsB.bt p.byts 10
  have b3 := IsB.bt p.byts 11
  refine eq_of_bt (by simp [hl]) fun i hi => ?_
  have hi4 : i < 4 := by simp [hl] at hi; omega
  rw [bt_dt, if_pos hi4]
  rcases (by omega : i = 0 ∨ i = 1 ∨ i = 2 ∨ i = 3) with rfl | rfl | rfl | rfl
  · show bt L 8 = 0; omega
  · show bt L 9 = 1; omega
  · show bt L 10 = 0; omega
  · show bt L 11 = 252; omega

set_option maxHeartbeats 16000000 in
theorem live_any (w : World) (R : Ending → World → Prop) (hR : R = LiveYes w) : Calls Try.prog 16 #[] w R := by
  have HR := Lib.hid hR; clear hR
  have hm : mayP ((256 : Nat) : Int) ((8 : Nat) : Int) := by decide
  have HM := Lib.hid hm
  clear hm
  go_enter Try.func16, Try.ntmps16
  go_wp2_with fail
  refine (pNew_any _ 256 8 (by omega) (by omega) _ rfl).mono ?_
  rintro e w1 ⟨hb1, h | ⟨_, g, gb, rfl, hg, hgb, hp⟩⟩
  · exact absurd HM.out h.1
  rw [show (256 : Int).toNat = 256 from rfl, show (8 : Int).toNat = 8 from rfl] at hp
  have HP := Lib.hid (show Pg w1 g gb 256 (newM 256 8).h (List.replicate 256 0) [] by rw [new_h]; exact hp)
  have HI := Lib.hid (new_page HM.out)
  have HG := Lib.hid (new_good HM.out)
  have hz1 := hb1.size
  clear hp
  go_wp2_with fail
  refine (pRoom_any _ g gb 256 _ [] (newM 256 8) HP.out HI.out HG.out).mono ?_
  rintro e w2 ⟨rfl, hb2⟩
  rw [live_room]
  have hB2 : Below w.heap.size w w2 := hb1.trans (hb2.mono hz1)
  have hlt := HP.out.lt
  have HP2 := Lib.hid (HP.out.keep hb2)
  have hz2 := hb2.size
  clear hb2
  have z1 : ((242 : Int) != 242) = false := by decide
  have kc := fun (w : World) (C : Array Value) (n c g : Nat) (hg : g = w.heap.size) => Joins.run_convert_bytes_const_at (P := Try.prog) w 29 5 C n c g hg Try.underlying29 Try.underlying5
  obtain ⟨W3, hW3⟩ : ∃ W, W = w2.alloc (.cells #[.int .u8 97, .int .u8 98] 5 (2, 3)) := ⟨_, rfl⟩
  have hb3 : Below w2.heap.size w2 W3 := by rw [hW3]; exact (Below.refl _ _).alloc (Nat.le_refl _) _
  have HRD := Lib.hid (show Rd W3 (some ⟨w2.heap.size, 0, none⟩) [97, 98] by
    rw [hW3]
    refine .inr ⟨_, 0, rfl, fun i hi => ?_⟩
    rw [heap_cell (heap_alloc_new w2 _)]
    have hi2 : i < 2 := hi
    rcases (by omega : i = 0 ∨ i = 1) with rfl | rfl <;> rfl)
  have HP3 := Lib.hid (HP2.out.keep hb3)
  have hlt2 := HP2.out.lt
  have HW := Lib.hid hW3
  clear hW3
  go_wp2_with fail
  rw [← HW.out]
  clear HW kc
  refine (pIns_any _ g gb 256 _ [] (newM 256 8) HP3.out HI.out HG.out 0 (by omega) (by omega) _ 2 2 [97, 98] rfl (by omega) HRD.out (by intro x hx; simp at hx; omega) (by intro a ha _; injection ha with ha; subst ha; show w2.heap.size ≠ gb; omega) _ rfl).mono ?_
  rintro e w4 ⟨rfl, hg4, L4, ⟨hp4, hm4⟩, hi4⟩
  rw [live_ins] at hp4 hi4
  rw [live_ins]
  have HP4 := Lib.hid hp4
  have HI4 := Lib.hid hi4
  have hB4 : Below w.heap.size w w4 := hm4.below (hB2.trans (hb3.mono hB2.size)) hgb (by have := hb3.size; omega)
  clear hp4 hm4 hg4 HP HP2 HP3 HI HG HRD
  have hl4 : L4.length = 256 := HI4.out.len
  have HL4 := Lib.hid hl4
  have hz4 := hB4.size
  have z2 : ((0 : Int) != 0) = false := by decide
  clear hl4
  go_wp2_with fail
  refine (pBytes_any _ g gb 256 _ L4 [] HP4.out (by rw [HL4.out]; omega)).mono ?_
  rintro e w5 ⟨A5, n5, c5, rfl, hown5, hb5⟩
  have hn5 : 256 = n5 := HL4.out.symm.trans hown5.len
  subst hn5
  have HO5 := Lib.hid hown5
  have hB5 : Below w.heap.size w w5 := hB4.trans (hb5.mono hz4)
  have hz5 := hB5.size
  have hmk := run_mk 255 255 (Nat.le_refl _) (by omega)
  rw [show ((255 : Nat) : Int) = 255 from rfl] at hmk
  clear hown5 hb5
  obtain ⟨W6, hW6⟩ : ∃ W, W = w5.alloc (.cells (zrs 255) 5) := ⟨_, rfl⟩
  have hb6 : Below w5.heap.size w5 W6 := by rw [hW6]; exact (Below.refl _ _).alloc (Nat.le_refl _) _
  have HO6 := Lib.hid (show OwnB W6 w5.heap.size (some ⟨w5.heap.size, 0, none⟩) 255 255 (List.replicate 255 0) by rw [hW6]; exact OwnB.zeros w5 _ 255 (Nat.le_refl _) (by decide))
  have HO56 := Lib.hid (HO5.out.keep hb6)
  have hB6 : Below w.heap.size w W6 := hB5.trans (hb6.mono hz5)
  have hz6 := hB6.size
  have HW := Lib.hid hW6
  clear hW6 hb6
  go_wp2_with fail
  rw [← HW.out]
  clear HW hmk
  refine (pOf_any _ _ 255 255 (List.replicate 255 0) (by simp) (by omega) HO6.out.rd (isB_zeros 255) 0 (by omega) _ rfl).mono ?_
  have hno : ¬ mayP ((List.replicate 255 (0 : Int)).length : Int) 0 := by decide
  rintro e w7 ⟨hb7, h | ⟨h, _⟩ | ⟨h, _⟩⟩
  rotate_left
  · exact absurd h hno
  · exact absurd h hno
  obtain ⟨_, rfl⟩ := h
  clear hno
  have HO7 := Lib.hid (HO56.out.keep hb7)
  have hB7 : Below w.heap.size w w7 := hB6.trans (hb7.mono hz6)
  clear hb7 HO5 HO6 HO56
  have hz7 := hB7.size
  have hc5 := HO7.out.cap
  have hcut := run_cut A5 256 c5 8 4 (by omega)
  rw [show ((8 : Nat) : Int) = 8 from rfl, show (8 : Int) + ((4 : Nat) : Int) = 12 from rfl] at hcut
  obtain ⟨D, hD⟩ : ∃ D, cutA A5 c5 8 = D := ⟨_, rfl⟩
  have hrd := cutA_rd HO7.out.rd c5 8 4 (by rw [HL4.out]; exact hc5.1)
  rw [hD, live_head HI4.out] at hrd
  rw [hD] at hcut
  have HRD := Lib.hid hrd
  clear hD hrd
  obtain ⟨W8, hW8⟩ : ∃ W, W = w7.alloc (.cells #[.int .u8 0, .int .u8 1, .int .u8 0, .int .u8 252] 5) := ⟨_, rfl⟩
  have hb8 : Below w7.heap.size w7 W8 := by rw [hW8]; exact (Below.refl _ _).alloc (Nat.le_refl _) _
  have HR8 := Lib.hid (show Rd W8 (some ⟨w7.heap.size, 0, none⟩) [0, 1, 0, 252] by
    rw [hW8]
    refine .inr ⟨_, 0, rfl, fun i hi => ?_⟩
    rw [heap_cell (heap_alloc_new w7 _)]
    have hi2 : i < 4 := hi
    rcases (by omega : i = 0 ∨ i = 1 ∨ i = 2 ∨ i = 3) with rfl | rfl | rfl | rfl <;> rfl)
  have HRD8 := Lib.hid (HRD.out.keep hb8)
  have hB8 : Below w.heap.size w W8 := hB7.trans (hb8.mono hz7)
  have HW := Lib.hid hW8
  clear hW8 hb8
  have hq : ((256 : Int) == 256) = true := by decide
  have hq1 : ((1 : Int) == 1) = true := by decide
  go_wp2_with fail
  rw [← HW.out]
  clear HW
  refine (same1_any _ D (some ⟨w7.heap.size, 0, none⟩) 4 (c5 - 8) 4 4 [0, 1, 0, 252] [0, 1, 0, 252] rfl rfl (by omega) HRD8.out HR8.out).mono ?_
  rintro e w9 ⟨rfl, hb9⟩
  simp only [beqL_self]
  have hB9 := hB8.trans (hb9.mono hB8.size)
  go_wp2
  rw [HR.out]
  exact ⟨rfl, hB9⟩

set_option maxHeartbeats 16000000 in
theorem slotsNobody_walk (w : World) (i : Int) (A : Option Addr) (n c : Nat) (l : List Int) (hi : -9223372036854775808 ≤ i ∧ i ≤ 9223372036854775807) (hn : l.length = n) (hnc : n ≤ c) (hcm : c ≤ maxLen) (hA : Rd w A l) (hB : IsB l) :
    Calls Try.prog 7 #[.int .i64 i, .slice A n c] w (LiveYes w) := by
  clear hn hnc hcm hA hB hi
  go_enter Try.func7, Try.ntmps7
  go_wp2_with fail
  refine (nilCell _ i).mono ?_
  rintro e w1 ⟨rfl, rfl⟩
  go_wp2_with fail
  refine (nilPack _ _ rfl).mono ?_
  rintro e w1 ⟨rfl, rfl⟩
  go_wp2_with fail
  refine (live_any _ _ rfl).mono ?_
  rintro e w1 ⟨rfl, hb1⟩
  go_wp2_with fail
  refine (nilInsert _ i A n c).mono ?_
  rintro e w2 ⟨rfl, rfl⟩
  go_wp2_with fail
  refine (nilRemove _ i).mono ?_
  rintro e w2 ⟨rfl, rfl⟩
  go_wp2_with fail
  refine (nilMany _).mono ?_
  rintro e w2 ⟨rfl, rfl⟩
  go_wp2_with fail
  refine (nilRoom _).mono ?_
  rintro e w2 ⟨rfl, rfl⟩
  go_wp2_with fail
  refine (nilBytes _).mono ?_
  rintro e w2 ⟨rfl, rfl⟩
  go_wp2
  go_ret
  exact ⟨rfl, hb1⟩
end Go.Proofs.Ytoeaffmlolapnaa
