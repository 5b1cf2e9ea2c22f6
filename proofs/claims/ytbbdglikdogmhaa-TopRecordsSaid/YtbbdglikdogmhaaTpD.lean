/- Walks: slices.Clone of values, order.copies. -/
import Derived.Test.YtbbdglikdogmhaaTpC
import Derived.Test.YtbbdglikdogmhaaGenB
namespace Go.Proofs.Ytbbdglikdogmhaa
open Go.RowKit
set_option maxRecDepth 100000
set_option linter.unusedVariables false
set_option linter.unusedSimpArgs false
set_option linter.unnecessarySimpa false

theorem RdVl.cells {w : World} {b off : Nat} {F : List Vl} (h : ∀ i, i < F.length → VlCell w b (off + i * 3) (vl_ F i)) : ∀ t u, (valsC F)[t]? = some u → w.cell? ⟨b, off + t, none⟩ = some u := by
  intro t u hu
  have ht : t < F.length * 3 := by rw [← valsC_length]; exact (List.getElem?_eq_some_iff.1 hu).1
  have hi : t / 3 < F.length := by omega
  have e := valsC_get F (t / 3) (t % 3) hi (by omega)
  rw [show t / 3 * 3 + t % 3 = t by omega, hu] at e
  have := h (t / 3) hi (t % 3) u e.symm
  rwa [show off + t / 3 * 3 + t % 3 = off + t by omega] at this
theorem valsC_one (F : List Vl) : ∀ u ∈ valsC F, u.oneCell' = true := by
  intro u hu
  unfold valsC at hu
  rw [List.mem_flatten] at hu
  obtain ⟨l, hl, hu⟩ := hu
  obtain ⟨v, _, rfl⟩ := List.mem_map.1 hl
  simp [vlC] at hu
  rcases hu with rfl | rfl | rfl <;> rfl
theorem OwnV.lit0 (w : World) (base : Nat) (hb : base ≤ w.heap.size) : OwnV (w.alloc (.cells #[] 49)) base (some ⟨w.heap.size, 0, none⟩) 0 0 [] :=
  ⟨rfl, rfl, .inr ⟨w.heap.size, 0, #[], rfl, hb, heap_alloc_new w _, Nat.le_refl _, by unfold maxLen; omega, rfl, rfl⟩⟩
/-- A row of the call's own. -/
def RwO (w : World) (r : Rw) : Prop := (∃ b, OwnV w b r.A r.n r.c r.F) ∧ ∀ v ∈ r.F, VOk v
theorem RwO.ok {w : World} {r : Rw} (h : RwO w r) : RwOk w r := by
  obtain ⟨⟨b, h1⟩, h2⟩ := h
  exact ⟨h1.1, h1.cap.1, h1.cap.2, h1.rd, h2⟩
theorem RwO.keep {w w' : World} {r : Rw} (h : RwO w r) (hb : Below w.heap.size w w') : RwO w' r := by
  obtain ⟨⟨b, h1⟩, h2⟩ := h
  exact ⟨⟨b, h1.keep hb⟩, h2⟩
theorem RwO.kept {w w' : World} {r : Rw} {base s n c : Nat} {E : TypeId} {B B' : Option Addr} {us : List Value} (h : RwO w r) (k : w.ownsRow base E s (.slice B n c) n us) (hE : 49 ≠ E) (hk : Kept w B w' B') : RwO w' r := by
  obtain ⟨⟨b, h1⟩, h2⟩ := h
  exact ⟨⟨b, h1.1, rowKept h1.2 k hE hk⟩, h2⟩

set_option maxHeartbeats 4000000 in
theorem cloneV_any (w : World) (A : Option Addr) (n c : Nat) (F : List Vl) (hn : F.length = n) (hnm : n ≤ 100000) (hA : RdVl w A F) (hF : ∀ v ∈ F, VOk v) :
    Calls Try.prog 65 #[.slice A n c] w fun e w' => ∃ r : Rw, e = .returned (.slice r.A r.n r.c) ∧ r.F = F ∧ RwO w' r ∧ Below w.heap.size w w' := by
  have HN := Lib.hid hn
  have HA := Lib.hid hA
  have HF := Lib.hid hF
  clear hA hF
  have hq := Lib.run_eql_slice_nil (P := Try.prog) w 22 49 A n c 0 0 Try.underlying22
  cases A with
  | none =>
    obtain rfl : F = [] := by
      rcases HA.out with h | ⟨_, _, h, _⟩
      · exact h
      · cases h
    obtain rfl : n = 0 := by simpa using hn.symm
    clear hn
    go_enter Try.func65, Try.ntmps65
    go_wp2
    go_ret
    exact ⟨⟨none, 0, 0, []⟩, rfl, rfl, ⟨⟨0, OwnV.nil _ _⟩, HF.out⟩, Below.refl _ _⟩
  | some a =>
    clear hn
    go_enter Try.func65, Try.ntmps65
    go_upto_region 3 with fail
    clear hq
    iterate 7 go_step
    obtain ⟨w1, hw1⟩ : ∃ W, W = w.alloc (.cells #[] 49) := ⟨_, rfl⟩
    have hb1 : Below w.heap.size w w1 := by rw [hw1]; exact (Below.refl _ _).alloc (Nat.le_refl _) _
    have HO1 := Lib.hid (show OwnV w1 w.heap.size (some ⟨w.heap.size, 0, none⟩) 0 0 [] by rw [hw1]; exact OwnV.lit0 w _ (Nat.le_refl _))
    have hs1 : w.heap.size ≤ w1.heap.size := hb1.size
    rw [← hw1]
    clear hw1
    refine wp_append_k 22 49 _ 3 32 Try.underlying22 info_vl rfl (by decide) (by decide) rfl (.tmp 5) (.tmp 6) rfl w.heap.size _ 0 0 (valsC []) rfl HO1.out.2 a n c (valsC F) rfl (by rw [valsC_length, HN.out]) (fun j u hu => by
      by_cases h0 : F = []
      · rw [h0] at hu; simp [valsC] at hu
      · obtain ⟨b, off, he, hc⟩ := (HA.out.keep hb1).at (List.length_pos_iff.2 h0)
        injection he with he
        subst he
        simpa [Addr.add_lit] using RdVl.cells hc j u hu) (valsC_one F) (by omega) hs1 ?_
    intro A' c' w' hrow hb' _
    have hbe : Below w.heap.size w w' := hb1.trans hb'
    have HO := Lib.hid (show OwnV w' w.heap.size A' n c' F from ⟨HN.out, by simpa [valsC] using hrow⟩)
    clear hrow hb'
    go_wp2_with fail
    go_ret
    exact ⟨⟨A', n, c', F⟩, rfl, rfl, ⟨⟨_, HO.out⟩, HF.out⟩, hbe⟩
/-! ### rows copied -/
def hdrC (L : List Rw) : List Value := L.map fun r => .slice r.A r.n r.c
theorem hdrC_app (L M : List Rw) : hdrC (L ++ M) = hdrC L ++ hdrC M := by simp [hdrC]
theorem hdrC_one (L : List Rw) : ∀ u ∈ hdrC L, u.oneCell' = true := by
  intro u hu
  obtain ⟨r, _, rfl⟩ := List.mem_map.1 hu
  rfl
theorem info_vs : (Try.prog.info? 22).map (fun i => (i.zero, i.size, i.bytes)) = some (some (.slice none 0 0), 1, 24) := by kernel_rfl
def zrv (n : Nat) : Array Value := madeCells (Value.cells (.slice none 0 0)) (n * 1)
theorem run_mkv (a n : Nat) (ha : a ≤ n) (hn : n ≤ 1000000) (w : World) :
    (Instr.makeSlice 44 (.int .i64 (a : Int)) (.int .i64 (n : Int))).run Try.prog w = .ok (.slice (some ⟨w.heap.size, 0, none⟩) a n) (w.alloc (.cells (zrv n) 22)) := by
  obtain ⟨i, hi, hz, hsz, hby⟩ := info_parts info_vs
  have h := run_make (P := Try.prog) w 44 22 i (.slice none 0 0) Try.underlying44 hi hz .i64 .i64 a n (by omega) (by omega) (by rw [hby]; omega) (by omega)
  rw [hsz] at h
  simpa [zrv] using h
theorem zrv_size (n : Nat) : (zrv n).size = n * 1 := size_madeCells _ _
theorem OwnG.madeV (w : World) (base n : Nat) (hb : base ≤ w.heap.size) (hm : n ≤ maxLen) : OwnG 22 (w.alloc (.cells (zrv n) 22)) base (some ⟨w.heap.size, 0, none⟩) 0 n [] :=
  ⟨rfl, World.ownsRow_made w (zrv n) n hb hm (zrv_size n)⟩
/-- Rows of the call's own, each row too. -/
def Dt (w : World) (base : Nat) (A : Option Addr) (c : Nat) (L : List Rw) : Prop := OwnG 22 w base A L.length c (hdrC L) ∧ ∀ r ∈ L, RwO w r
theorem Dt.keep {w w' : World} {base : Nat} {A : Option Addr} {c : Nat} {L : List Rw} (h : Dt w base A c L) (hb : Below w.heap.size w w') : Dt w' base A c L := ⟨h.1.keep hb, fun r hr => (h.2 r hr).keep hb⟩
def OcRel (w : World) (L : List Rw) (ov iv : Value) (wr : World) : Prop :=
  ∃ (M : List Rw) (A : Option Addr) (c : Nat), M.length ≤ L.length ∧ iv = .int .i64 (M.length : Int) ∧ ov = .slice A M.length c ∧ Dt wr w.heap.size A c M ∧ valsOf M = (valsOf L).take M.length ∧ Below w.heap.size w wr

set_option maxHeartbeats 16000000 in
theorem ocopies_any (w : World) (A : Option Addr) (n c : Nat) (L : List Rw) (hn : L.length = n) (hnm : n ≤ 100000) (hA : RdVR w A L) (hsh : ∀ r ∈ L, r.n ≤ 100000) (R : Ending → World → Prop) (hR : R = fun e w' => ∃ M A c, e = .returned (.slice A n c) ∧ M.length = n ∧ Dt w' w.heap.size A c M ∧ valsOf M = valsOf L ∧ Below w.heap.size w w') :
    Calls Try.prog 46 #[.slice A n c] w R := by
  have HR := Lib.hid hR; clear hR
  have HA := Lib.hid hA
  have HN := Lib.hid hn
  have HSH := Lib.hid hsh
  have hmk : ∀ W : World, (Instr.makeSlice 44 (.int .i64 0) (.int .i64 (n : Int))).run Try.prog W = .ok (.slice (some ⟨W.heap.size, 0, none⟩) 0 n) (W.alloc (.cells (zrv n) 22)) := fun W => run_mkv 0 n (Nat.zero_le _) (by omega) W
  obtain ⟨W1, hW1⟩ : ∃ W, W = w.alloc (.cells (zrv n) 22) := ⟨_, rfl⟩
  have HO1 := Lib.hid (show Dt W1 w.heap.size (some ⟨w.heap.size, 0, none⟩) n [] by rw [hW1]; exact ⟨OwnG.madeV w _ n (Nat.le_refl _) (by unfold maxLen; omega), fun r hr => by cases hr⟩)
  have hb1 : Below w.heap.size w W1 := by rw [hW1]; exact (Below.refl _ _).alloc (Nat.le_refl _) _
  have HW := Lib.hid hW1
  clear hW1 hA hn hsh
  go_enter Try.func46, Try.ntmps46
  go_upto_region 2 with fail
  rw [← HW.out]
  clear HW hmk
  go_wp2_with fail
  go_loopw [3, 11] (OcRel w L) (fun _ i _ => n - (intOf i).toNat)
  case atStart => exact ⟨[], _, n, Nat.zero_le _, rfl, rfl, HO1.out, rfl, hb1⟩
  case round =>
    obtain ⟨M, OA, oc, hM, rfl, rfl, hdt, hvals, hb⟩ := hrel
    rw [HN.out] at hM
    have HDT := Lib.hid hdt
    have HVA := Lib.hid hvals
    obtain ⟨j, hj⟩ : ∃ j, M.length = j := ⟨_, rfl⟩
    have HJ := Lib.hid hj
    rw [hj] at hM ⊢
    clear hdt hvals HO1 hj
    by_cases hlt : j < n
    · have hlt' : (j : Int) < (n : Int) := by omega
      have i0 : (0 : Int) ≤ (j : Int) := by omega
      have hjF : j < L.length := by rw [HN.out]; exact hlt
      obtain ⟨b, off, hAe, hcell⟩ := (HA.out.keep hb).at (by omega)
      have c1 := hcell j hjF
      have HX := Lib.hid ((HA.out.keep hb).2 _ (vw_mem hjF))
      have HXN := Lib.hid (HSH.out _ (vw_mem hjF))
      have HFJ := Lib.hid (valsOf_take hjF)
      obtain ⟨x, hx⟩ : ∃ x, vw_ L j = x := ⟨_, rfl⟩
      rw [hx] at c1 HX HXN HFJ
      subst hAe
      clear hcell hx hjF
      go_wp2_with fail
      refine (cloneV_any _ x.A x.n x.c x.F HX.out.1 HXN.out HX.out.2.2.2.1 HX.out.2.2.2.2).mono ?_
      rintro e w2 ⟨r, rfl, hrF, hro, hb2⟩
      have HRF := Lib.hid hrF
      have HRO := Lib.hid hro
      have HD2 := Lib.hid (HDT.out.keep hb2)
      have hb02 : Below w.heap.size w w2 := hb.trans (hb2.mono hb.size)
      clear hrF hro c1 HDT hb2
      simp only []
      iterate 4 go_step
      obtain ⟨w3, hw3⟩ : ∃ W, W = w2.alloc (.cells #[.slice r.A r.n r.c] 22) := ⟨_, rfl⟩
      have hb3 : Below w2.heap.size w2 w3 := by rw [hw3]; exact (Below.refl _ _).alloc (Nat.le_refl _) _
      have HC3 := Lib.hid (show w3.cell? ⟨w2.heap.size, 0, none⟩ = some (.slice r.A r.n r.c) by rw [hw3, heap_cell (heap_alloc_new w2 _)]; rfl)
      have HD3 := Lib.hid (HD2.out.keep hb3)
      have HRO3 := Lib.hid (HRO.out.keep hb3)
      have hb03 : Below w.heap.size w w3 := hb02.trans (hb3.mono hb02.size)
      rw [← hw3]
      clear hw3 hb3 HD2 HRO
      refine wp_append_g 44 22 _ 24 Try.underlying44 info_vs rfl (by decide) rfl (.tmp 15) (.tmp 18) rfl w.heap.size OA j oc (hdrC M) rfl (by have := HD3.out.1; rwa [HJ.out] at this) _ 1 1 (hdrC [r]) rfl rfl (.inr ⟨w2.heap.size, 0, rfl, by simp, fun i u hu => by
        have hi : i = 0 := by have := (List.getElem?_eq_some_iff.1 hu).1; simp [hdrC] at this; omega
        subst hi
        rw [← hu]
        simpa [hdrC] using HC3.out⟩) (hdrC_one _) (by omega) hb03.size ?_
      intro A' c' w4 hown hb4 hk4
      have hb04 : Below w.heap.size w w4 := hb03.trans hb4
      have HD4 := Lib.hid (show Dt w4 w.heap.size A' c' (M ++ [r]) by
        refine ⟨by rw [hdrC_app, List.length_append, HJ.out]; exact hown, fun y hy => ?_⟩
        have hrow := HD3.out.1.2
        rcases List.mem_append.1 hy with h | h
        · exact (HD3.out.2 y h).kept hrow (by decide) (by simpa [HJ.out] using hk4)
        · obtain rfl : y = r := by simpa using h
          exact HRO3.out.kept hrow (by decide) (by simpa [HJ.out] using hk4))
      have hlen : (M ++ [r]).length = j + 1 := by rw [List.length_append, HJ.out]; rfl
      have HLEN := Lib.hid hlen
      have HV4 := Lib.hid (show valsOf (M ++ [r]) = (valsOf L).take (j + 1) by
        rw [HFJ.out, ← HRF.out]
        have := HVA.out
        rw [HJ.out] at this
        rw [← this]
        simp [valsOf])
      clear hown hb4 hk4 HD3 HRO3 HC3 hlen
      go_wp2_with fail
      go_roundw
      case rel => exact ⟨M ++ [r], A', c', by rw [HLEN.out, HN.out]; omega, by rw [HLEN.out]; go_num, by rw [HLEN.out], HD4.out, by rw [HLEN.out]; exact HV4.out, hb04⟩
      case measure => simp [intOf]; omega
    · obtain rfl : j = n := by omega
      have HFIN := Lib.hid (show valsOf M = valsOf L by
        have := HVA.out
        rwa [HJ.out, ← HN.out, ← valsOf_len L, List.take_length] at this)
      go_wp2_with fail
      rw [HR.out]
      exact ⟨M, OA, oc, rfl, HJ.out, HDT.out, HFIN.out, hb⟩
end Go.Proofs.Ytbbdglikdogmhaa
