/- Walks over a page: Clone, Many, Room, Bytes, Cell, may, New. -/
import Derived.Test.YtoeaffmlolapnaaSlD
import Derived.Lib.SliceRun
namespace Go.Proofs.Ytoeaffmlolapnaa
open Go.RowKit
set_option maxRecDepth 100000
set_option linter.unusedVariables false
set_option linter.unusedSimpArgs false
set_option linter.unnecessarySimpa false

set_option maxHeartbeats 4000000 in
theorem pclone_any (w : World) (A : Option Addr) (n c : Nat) (l : List Int) (hl : l.length = n) (hn : n ≤ 1000000) (hnil : A = none → n = 0 ∧ c = 0) (hA : Rd w A l) :
    Calls Try.prog 63 #[.slice A n c] w (BytesBack w l) := by
  have HL := Lib.hid hl
  have HA := Lib.hid hA
  clear hA
  have hq := Lib.run_eql_slice_nil (P := Try.prog) w 29 5 A n c 0 0 Try.underlying29
  cases A with
  | none =>
    obtain ⟨rfl, rfl⟩ := hnil rfl
    obtain rfl : l = [] := List.eq_nil_of_length_eq_zero hl
    clear hnil hl
    go_enter Try.func63, Try.ntmps63
    go_wp2
    go_ret
    exact ⟨none, 0, 0, rfl, OwnB.nil _ _, Below.refl _ _⟩
  | some a =>
    clear hnil hl
    have hba : Below w.heap.size w (w.alloc (.cells #[] 5)) := (Below.refl _ _).alloc (Nat.le_refl _) _
    go_enter Try.func63, Try.ntmps63
    go_upto_region 3 with fail
    iterate 7 go_step
    refine wp_append rfl (.tmp 5) (.tmp 6) rfl w.heap.size _ _ _ [] rfl (OwnB.lit w #[] [] _ 0 rfl rfl (Nat.le_refl _) (by decide)) (some a) n c l rfl HL.out (HA.out.keep hba) (by omega) (by simp) ?_
    intro A2 c2 w2 hown2 _ hb2'
    simp only [List.nil_append, Nat.zero_add] at hown2 ⊢
    have hb2 : Below w.heap.size w w2 := hba.trans hb2'
    have HO := Lib.hid hown2
    clear hown2 hb2' hba
    go_wp2
    go_ret
    exact ⟨A2, n, c2, rfl, HO.out, hb2⟩

set_option maxHeartbeats 4000000 in
theorem pMany_any (w : World) (g gb c : Nat) (L : List Int) (X : List Value) (M : Mdl) (hp : Pg w g gb c M.h L X) (hi : IsP L M) (hg : Good M) :
    Calls Try.prog 22 #[.pointer (some ⟨g, 0, none⟩)] w fun e w' => e = .returned (.int .i64 (M.k : Int)) ∧ w = w' := by
  have HP := Lib.hid hp
  have HMN := Lib.hid hi.many
  have hf : M.h + 2 ≤ L.length := by have := hg.fit; unfold Mdl.used at this; rw [hi.len]; omega
  have hk := hg.kle
  clear hp hi hg
  go_enter Try.func22, Try.ntmps22
  go_wp2_with fail
  refine (pmany_any _ g gb c M.h L X HP.out hf).mono ?_
  rintro e w1 ⟨rfl, rfl⟩
  rw [HMN.out]
  go_wp2_with fail
  go_ret
  exact ⟨rfl, rfl⟩

def Mdl.room (M : Mdl) : Int := if M.left < 4 then -1 else M.left - 4
theorem left_bd {M : Mdl} (g : Good M) : -8400000 ≤ M.left ∧ M.left ≤ 4096 := by
  have h1 := takenC_le (C := M.C) 4096 g.clen
  have h2 := g.kle
  have h3 := g.n1
  have h4 := g.h1
  have h5 : (4 + 4096) * M.C.length ≤ 4100 * 2047 := Nat.mul_le_mul_left _ h2
  have h6 := g.n0
  unfold Mdl.left
  omega

set_option maxHeartbeats 4000000 in
theorem pRoom_any (w : World) (g gb c : Nat) (L : List Int) (X : List Value) (M : Mdl) (hp : Pg w g gb c M.h L X) (hi : IsP L M) (hg : Good M) :
    Calls Try.prog 27 #[.pointer (some ⟨g, 0, none⟩)] w fun e w' => e = .returned (.int .i64 M.room) ∧ Below w.heap.size w w' := by
  have HP := Lib.hid hp
  have HI := Lib.hid hi
  have HG := Lib.hid hg
  have hb := left_bd hg
  have hR : M.room = if M.left < 4 then -1 else M.left - 4 := rfl
  have HR := Lib.hid hR
  clear hp hi hg hR
  go_enter Try.func27, Try.ntmps27
  go_wp2_with fail
  refine (pleft_any _ g gb c L X M HP.out HI.out HG.out).mono ?_
  rintro e w1 ⟨rfl, hb1⟩
  obtain ⟨t, ht⟩ : ∃ t, M.left = t := ⟨_, rfl⟩
  rw [ht] at hb HR ⊢
  clear ht HP HI HG
  by_cases h4 : -1 < t - 4
  · go_wp2_with fail
    go_ret
    exact ⟨ret_int (by rw [HR.out, if_neg (by omega)]), hb1⟩
  · go_wp2_with fail
    go_ret
    exact ⟨ret_int (by rw [HR.out, if_pos (by omega)]), hb1⟩

set_option maxHeartbeats 4000000 in
theorem pBytes_any (w : World) (g gb c h : Nat) (L : List Int) (X : List Value) (hp : Pg w g gb c h L X) (hn : L.length ≤ 4096) :
    Calls Try.prog 26 #[.pointer (some ⟨g, 0, none⟩)] w (BytesBack w L) := by
  have HP := Lib.hid hp
  have m0 := hp.m0
  clear hp
  go_enter Try.func26, Try.ntmps26
  go_wp2_with fail
  refine (pclone_any _ (some ⟨gb, 0, none⟩) L.length c L rfl (by omega) (fun h => by cases h) HP.out.rd).mono ?_
  rintro e w1 ⟨A, n, d, rfl, hown, hb⟩
  have HO := Lib.hid hown
  clear hown
  go_wp2_with fail
  go_ret
  exact ⟨A, n, d, rfl, HO.out, hb⟩

theorem run_cut3 (A : Option Addr) (n c lo m : Nat) (h : lo + m ≤ c) (w : World) :
    (Instr.slice 29 (.slice A n c) (some (.int .i64 (lo : Int))) (some (.int .i64 ((lo : Int) + (m : Int)))) (some (.int .i64 ((lo : Int) + (m : Int))))).run Try.prog w = .ok (.slice (cutA A (lo + m) lo) m m) w := by
  rw [run_slice_lhm w 29 A n c Try.underlying29 .i64 .i64 .i64 (lo : Int) ((lo : Int) + (m : Int)) ((lo : Int) + (m : Int)) (by omega) (by omega) (by omega) (by omega)]
  have e : (sizeOf (Try.prog.elem 29)).run Try.prog w = .ok 1 w := by kernel_rfl
  have e2 : ((lo : Int) + (m : Int)).toNat = lo + m := by omega
  rw [e]
  simp only [Result.andThen, sliced, Int.toNat_natCast, e2, cutA, Nat.mul_one]
  rw [show lo + m - lo = m by omega]
def CellBack (w : World) (l : List Int) (z : Int) (e : Ending) (w' : World) : Prop := ∃ A n c, e = .returned (.tuple #[.slice A n c, .int .i64 z]) ∧ OwnB w' w.heap.size A n c l ∧ Below w.heap.size w w'

set_option maxHeartbeats 8000000 in
theorem pCell_any (w : World) (g gb c : Nat) (L : List Int) (X : List Value) (M : Mdl) (hp : Pg w g gb c M.h L X) (hi : IsP L M) (hg : Good M) (i : Int) (i0 : -9223372036854775808 ≤ i) (i1 : i ≤ 9223372036854775807) (R : Ending → World → Prop) (hR : R = CellBack w (if 0 ≤ i ∧ i < (M.k : Int) then M.cl i.toNat else []) (if 0 ≤ i ∧ i < (M.k : Int) then 0 else 1)) :
    Calls Try.prog 21 #[.pointer (some ⟨g, 0, none⟩), .int .i64 i] w R := by
  have HR := Lib.hid hR; clear hR
  have HP := Lib.hid hp
  have HI := Lib.hid hi
  have HG := Lib.hid hg
  have HMN := Lib.hid hi.many
  have hf : M.h + 2 ≤ L.length := by have := hg.fit; unfold Mdl.used at this; rw [hi.len]; omega
  have hk := hg.kle
  have hh := hg.h1
  have hn1 := hg.n1
  have hlc := hp.len
  rw [hi.len] at hlc
  have m0 := hp.m0
  rw [hi.len] at m0
  have hfit := hg.fit
  unfold Mdl.used at hfit
  clear hp hi hg
  by_cases hin : 0 ≤ i ∧ i < (M.k : Int)
  rotate_left
  · have HR' := Lib.hid (show R = CellBack w [] 1 by rw [HR.out, if_neg hin, if_neg hin])
    clear HR
    by_cases hneg : i < 0
    · clear hin
      go_enter Try.func21, Try.ntmps21
      go_wp2_with fail
      rw [HR'.out]
      exact ⟨none, 0, 0, rfl, OwnB.nil _ _, Below.refl _ _⟩
    · have h1 : (M.k : Int) ≤ i := by omega
      clear hin
      go_enter Try.func21, Try.ntmps21
      go_wp2_with fail
      refine (pmany_any _ g gb c M.h L X HP.out hf).mono ?_
      rintro e w1 ⟨rfl, rfl⟩
      rw [HMN.out]
      go_wp2_with fail
      rw [HR'.out]
      exact ⟨none, 0, 0, rfl, OwnB.nil _ _, Below.refl _ _⟩
  · obtain ⟨j, rfl⟩ := Int.eq_ofNat_of_zero_le hin.1
    have HR' := Lib.hid (show R = CellBack w (M.cl j) 0 by rw [HR.out, if_pos hin, if_pos hin, Int.toNat_natCast])
    have hj : j < M.k := by omega
    clear HR hin
    have hq := HG.out.hi j hj
    have HS := Lib.hid (HI.out.slots j hj)
    have HLE := Lib.hid (HI.out.lens j hj)
    obtain ⟨q, hq'⟩ : ∃ q, M.pl j = q := ⟨_, rfl⟩
    obtain ⟨l, hl⟩ : ∃ l, M.cl j = l := ⟨_, rfl⟩
    have hbody : (L.drop (q + 2)).take l.length = l := by
      have hb := HI.out.body j hj
      rw [hq', hl] at hb
      rw [hq', hl] at hq
      refine eq_of_bt (by simp [HI.out.len]; omega) fun t ht => ?_
      have ht' : t < l.length := by simp [HI.out.len] at ht; omega
      rw [← hb t ht']
      simp [bt, ht']
    rw [hl] at HR' HLE hq
    rw [hq'] at HS HLE hq
    obtain ⟨m, hm⟩ : ∃ m, l.length = m := ⟨_, rfl⟩
    rw [hm] at HLE hq hbody
    have HM := Lib.hid hm
    have HBY := Lib.hid hbody
    have hlt : (j : Int) < (M.k : Int) := by omega
    clear hq' hl hm hbody
    have hcut := run_cut3 (some ⟨gb, 0, none⟩) M.n c (q + 2) m (by omega)
    rw [show ((q + 2 : Nat) : Int) = (q : Int) + 2 by omega] at hcut
    obtain ⟨D, hD⟩ : ∃ D, cutA (some ⟨gb, 0, none⟩) (q + 2 + m) (q + 2) = D := ⟨_, rfl⟩
    have hrd : Rd w D l := by
      by_cases h0 : m = 0
      · exact .inl (List.eq_nil_of_length_eq_zero (by rw [HM.out, h0]))
      · rw [← hD]
        unfold cutA
        rw [if_neg (by omega)]
        have h2 := rd_take' (rd_off' HP.out.rd (q + 2)) m
        rw [HBY.out] at h2
        simpa [Addr.add_lit] using h2
    have hnn : D = none → m = 0 ∧ m = 0 := by
      intro h
      rw [h] at hD
      unfold cutA at hD
      split at hD <;> simp at hD
    rw [hD] at hcut
    have HRD := Lib.hid hrd
    have HNN := Lib.hid hnn
    clear hD hrd hnn
    go_enter Try.func21, Try.ntmps21
    go_wp2_with fail
    refine (pmany_any _ g gb c M.h L X HP.out hf).mono ?_
    rintro e w1 ⟨rfl, rfl⟩
    rw [HMN.out]
    go_wp2_with fail
    refine (pspan_any _ g gb c M.h L X HP.out hh j q (by rw [HI.out.len]; omega) (by rw [HI.out.len]; exact hn1) HS.out (by rw [HI.out.len]; omega)).mono ?_
    rintro e w1 ⟨rfl, rfl⟩
    rw [HLE.out]
    go_wp2_with fail
    refine (pclone_any _ D m m l HM.out (by omega) HNN.out HRD.out).mono ?_
    rintro e w1 ⟨A, n, d, rfl, hown, hb⟩
    have HO := Lib.hid hown
    clear hown
    go_wp2_with fail
    rw [HR'.out]
    exact ⟨A, n, d, rfl, HO.out, hb⟩
end Go.Proofs.Ytoeaffmlolapnaa
