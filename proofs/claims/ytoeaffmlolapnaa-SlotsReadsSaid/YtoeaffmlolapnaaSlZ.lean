/- Walks: the document's page: Pack, Insert. Printed by genSz.py. -/
import Derived.Test.YtoeaffmlolapnaaSlY
namespace Go.Proofs.Ytoeaffmlolapnaa
open Go.RowKit
set_option maxRecDepth 100000
set_option linter.unusedVariables false
set_option linter.unusedSimpArgs false
set_option linter.unnecessarySimpa false

theorem RpAt.setP {w : World} {g : Nat} {r : RV} {M : Mdl} (h : RpAt w g r M) (B : Option Addr) (c : Nat) (P : List Nat) : RpAt (w.setCell ⟨g, 3, none⟩ (.slice B P.length c)) g { r with PA := B, pc := c } { M with P := P } := by
  obtain ⟨m0, m1, m2, m3⟩ := h.all
  intro i u hu
  have hi : i < 4 := (List.getElem?_eq_some_iff.1 hu).1
  rcases (by omega : i = 0 ∨ i = 1 ∨ i = 2 ∨ i = 3) with rfl | rfl | rfl | rfl
  · rw [World.cell?_setCell_other _ _ _ _ (by simp), m0]; exact hu
  · rw [World.cell?_setCell_other _ _ _ _ (by simp), m1]; exact hu
  · rw [World.cell?_setCell_other _ _ _ _ (by simp), m2]; exact hu
  · rw [World.cell?_setCell_same _ _ _ m3]; exact hu
theorem RpAt.setC {w : World} {g : Nat} {r : RV} {M : Mdl} (h : RpAt w g r M) (B : Option Addr) (c : Nat) (C : List (List Int)) (S : List Sl) : RpAt (w.setCell ⟨g, 2, none⟩ (.slice B C.length c)) g { r with CA := B, cc := c, S := S } { M with C := C } := by
  obtain ⟨m0, m1, m2, m3⟩ := h.all
  intro i u hu
  have hi : i < 4 := (List.getElem?_eq_some_iff.1 hu).1
  rcases (by omega : i = 0 ∨ i = 1 ∨ i = 2 ∨ i = 3) with rfl | rfl | rfl | rfl
  · rw [World.cell?_setCell_other _ _ _ _ (by simp), m0]; exact hu
  · rw [World.cell?_setCell_other _ _ _ _ (by simp), m1]; exact hu
  · rw [World.cell?_setCell_same _ _ _ m2]; exact hu
  · rw [World.cell?_setCell_other _ _ _ _ (by simp), m3]; exact hu
theorem there_setG {w : World} {g n : Nat} (h : w.there g 0 n) (a : Addr) (v : Value) : (w.setCell a v).there g 0 n := fun j hj => by
  obtain ⟨h1, h2⟩ := h j hj
  refine ⟨?_, by rw [World.frozen?_setCell]; exact h2⟩
  by_cases e : a = ⟨g, 0 + j, none⟩
  · subst e
    obtain ⟨u, hu⟩ := Option.isSome_iff_exists.1 h1
    rw [World.cell?_setCell_same _ _ _ hu]; rfl
  · rw [World.cell?_setCell_other _ _ _ _ e]; exact h1
theorem heap_setG_ne (w : World) (a : Addr) (v : Value) {i : Nat} (h : i ≠ a.block) : (w.setCell a v).heap[i]? = w.heap[i]? := by
  simp [World.setCell, Array.getElem?_modify, Ne.symm h]
theorem size_setG (w : World) (a : Addr) (v : Value) : (w.setCell a v).heap.size = w.heap.size := by simp [World.setCell]
theorem size_setCells (b : Nat) : ∀ (vs : List Value) (o : Nat) (w : World), (w.setCells b o vs).heap.size = w.heap.size
  | [], _, _ => rfl
  | v :: r, o, w => by
    show ((w.setCell ⟨b, o, none⟩ v).setCells b (o + 1) r).heap.size = _
    rw [size_setCells b r (o + 1), size_setG]
/-- What reads in blocks that were not touched reads on. -/
theorem RdG.frame {w w' : World} {bad bad' : List Nat} {A : Option Addr} {vs : List Value} (h : RdG w bad' A vs) (e : ∀ i, i ∉ bad' → i < w.heap.size → w'.heap[i]? = w.heap[i]?) (hs : ∀ g ∈ bad, g ∈ bad') : RdG w' bad A vs := by
  rcases h with h | ⟨b, off, rfl, hn, h⟩
  · exact .inl h
  · refine .inr ⟨b, off, rfl, fun hb => hn (hs b hb), fun i u hu => ?_⟩
    have h1 := h i u hu
    rw [← h1]
    simp [World.cell?, e b hn (World.block_lt_of_cell? w ⟨b, off + i, none⟩ h1)]

def RefBack (w : World) (bad : List Nat) (M : Mdl) (e : Ending) (w' : World) : Prop := ∃ r', e = .returned (r'.val M) ∧ RefV w' bad M r' ∧ Below w.heap.size w w'
def RefDeed (w : World) (bad : List Nat) (x : Mdl × Int) (e : Ending) (w' : World) : Prop := ∃ r', e = .returned (.tuple #[r'.val x.1, .int .i64 x.2]) ∧ RefV w' bad x.1 r' ∧ Below w.heap.size w w'
def pkl (M : Mdl) (j : Nat) : List Nat := (List.range j).map M.pk
theorem pkl_len (M : Mdl) (j : Nat) : (pkl M j).length = j := by simp [pkl]
theorem pkl_step (M : Mdl) (j : Nat) : natC (pkl M (j + 1)) = natC (pkl M j) ++ [.int .i64 (M.pk j : Int)] := by simp [natC, pkl, List.range_succ]
def RkRel (w : World) (M : Mdl) (r : RV) (at_ n i : Value) (wr : World) : Prop :=
  ∃ (j : Nat) (B : Option Addr) (cB : Nat), j ≤ M.k ∧ i = .int .i64 j ∧ n = .int .i64 ((M.n - sz (M.C.take j) : Nat) : Int) ∧ at_ = .slice B j cB ∧ OwnG 3 wr (w.heap.size + 2) B j cB (natC (pkl M j)) ∧ RpAt wr w.heap.size r M ∧ wr.there w.heap.size 0 4 ∧ wr.there (w.heap.size + 1) 0 4 ∧ w.heap.size + 2 ≤ wr.heap.size ∧ Below w.heap.size w wr

set_option maxHeartbeats 16000000 in
theorem rPack_any (w : World) (bad : List Nat) (M : Mdl) (r : RV) (hr : RefV w bad M r) (hg : Sm M) (hbad : ∀ g ∈ bad, g < w.heap.size) (R : Ending → World → Prop) (hR : R = RefBack w bad M.pack) :
    Calls Try.prog 58 #[r.val M] w R := by
  have HRR := Lib.hid hR; clear hR
  have HG := Lib.hid hg
  have HV := Lib.hid hr
  have HBAD := Lib.hid hbad
  have hk := hg.k1
  have hn := hg.n1
  have hroom := hg.room
  obtain ⟨W1, hW1⟩ : ∃ W, W = w.alloc (.cells #[.int .i64 (M.n : Int), .slice r.FA M.h r.fc, .slice r.CA M.k r.cc, .slice r.PA M.P.length r.pc] 33) := ⟨_, rfl⟩
  have hb1 : Below w.heap.size w W1 := by rw [hW1]; exact (Below.refl _ _).alloc (Nat.le_refl _) _
  have hs1 : W1.heap.size = w.heap.size + 1 := by rw [hW1]; simp
  have hR1 : RpAt W1 w.heap.size r M := by rw [hW1]; exact RpAt.made w r M _
  have hT1 : W1.there w.heap.size 0 4 := by rw [hW1]; exact there_new4 w _ _ _ _ _
  obtain ⟨W2, hW2⟩ : ∃ W, W = W1.alloc (.cells #[.int .i64 0, .slice none 0 0, .slice none 0 0, .slice none 0 0] 33) := ⟨_, rfl⟩
  have hb12 : Below W1.heap.size W1 W2 := by rw [hW2]; exact (Below.refl _ _).alloc (Nat.le_refl _) _
  have hs2 : W2.heap.size = w.heap.size + 2 := by rw [hW2]; simp [hs1]
  have hT2 : W2.there (w.heap.size + 1) 0 4 := by rw [hW2, ← hs1]; exact there_new4 W1 _ _ _ _ _
  have hb2 : Below w.heap.size w W2 := hb1.trans (hb12.mono hb1.size)
  have HR2 := Lib.hid (hR1.keep hb12)
  have HT12 := Lib.hid (there_keepR hT1 hb12 (by omega))
  have HT2 := Lib.hid hT2
  have HWW := Lib.hid hW2
  rw [hW1] at HWW
  clear hW1 hW2 hR1 hT1 hT2 hr hg hbad hb12 hs1 hb1
  unfold RV.val
  go_enter Try.func58, Try.ntmps58
  go_upto_region 1 with fail
  rw [← HWW.out]
  clear HWW
  obtain ⟨m0, m1, m2, m3⟩ := HR2.out.all
  go_wp2_with fail
  clear m0 m1 m2 m3
  go_loopw [3, 4, 5] (RkRel w M r) (fun _ _ i _ => M.k - (intOf i).toNat)
  case atStart => exact ⟨0, none, 0, Nat.zero_le _, rfl, by simp [sz], rfl, OwnG.nil _ _ _, HR2.out, HT12.out, HT2.out, by omega, hb2⟩
  case round =>
    obtain ⟨j, B, cB, hj, rfl, rfl, rfl, hown, hrp, ht1, ht2, hz, hb⟩ := hrel
    have HO := Lib.hid hown
    have HRP := Lib.hid hrp
    have HT1 := Lib.hid ht1
    have HT2' := Lib.hid ht2
    clear hown hrp ht1 ht2
    have hszb := sz_take_le M.C j
    obtain ⟨m0, m1, m2, m3⟩ := HRP.out.all
    by_cases hlt : j < M.k
    · have hV := HV.out.keep hb
      obtain ⟨s, hs1, hs2⟩ := hV.rows.get hlt
      obtain ⟨b, off, hA, hcell⟩ := hV.cells.at (by rw [show (rowC r.S).length = r.S.length by simp [rowC], hV.rows.len]; exact Nat.lt_of_le_of_lt (Nat.zero_le _) hlt)
      have hc := hcell j _ (rowC_get hs1)
      have hsn := hs2.1
      have hst := sz_take (C := M.C) (i := j) hlt
      have hsj := sz_take_le M.C (j + 1)
      obtain ⟨sA, sn, sc⟩ := s
      simp only at hc hsn
      rw [← hsn] at hst
      have hpk : M.pk j = M.n - sz (M.C.take (j + 1)) := rfl
      obtain ⟨q, hq⟩ : ∃ q, M.pk j = q := ⟨_, rfl⟩
      rw [hq] at hpk
      have HQ := Lib.hid hq
      obtain ⟨t, ht⟩ : ∃ t, M.n - sz (M.C.take j) = t := ⟨_, rfl⟩
      rw [ht]
      have hval : (t : Int) - 2 - (sn : Int) = (q : Int) := by omega
      have ht4 : (t : Int) ≤ 4096 := by omega
      have hsn4 : (sn : Int) ≤ 4096 := by omega
      have HPK := Lib.hid hpk
      rw [hA] at m2
      have hlt' : (j : Int) < (M.k : Int) := by omega
      have i0 : (0 : Int) ≤ (j : Int) := by omega
      clear hV hst hq ht hcell hA hsn hs2 hs1 hpk hszb hsj
      go_upto_region 7 with fail
      clear m0 m1 m2 m3 hc
      iterate 10 go_step
      have hba : Below wr.heap.size wr (wr.alloc (.cells #[.int .i64 (q : Int)] 3)) := (Below.refl _ _).alloc (Nat.le_refl _) _
      refine wp_append_g 31 3 (.int .i64 0) 8 Try.underlying31 info_in rfl (by omega) rfl (.tmp 24) (.tmp 26) rfl (w.heap.size + 2) B j cB (natC (pkl M j)) rfl (HO.out.keep hba) _ 1 1 [.int .i64 (q : Int)] rfl rfl (.inr ⟨_, 0, rfl, by simp, fun i u hu => by
        have hi : i < 1 := (List.getElem?_eq_some_iff.1 hu).1
        obtain rfl : i = 0 := by omega
        rw [heap_cell (heap_alloc_new wr _)]
        exact hu⟩) (by intro u hu; simp at hu; subst hu; rfl) (by omega) (by simp; omega) ?_
      intro A' c' w' hown hb' _
      have hbX : Below (w.heap.size + 2) wr w' := (hba.mono hz).trans hb'
      have hB' : Below w.heap.size w w' := hb.trans (hbX.mono (by omega))
      rw [← HQ.out, ← pkl_step] at hown
      have HO' := Lib.hid hown
      have HRP' := Lib.hid (HRP.out.keepB hbX (by omega))
      have HT1' := Lib.hid (there_keepR HT1.out hbX (by omega))
      have HT2'' := Lib.hid (there_keepR HT2'.out hbX (by omega))
      have hz' := hbX.size
      clear hown hb' hba
      go_wp2_with fail
      go_roundw
      case rel => exact ⟨j + 1, A', c', by omega, by go_num, by rw [← HPK.out], rfl, HO'.out, HRP'.out, HT1'.out, HT2''.out, by omega, hB'⟩
      case measure => simp [intOf]; omega
    · obtain rfl : j = M.k := by omega
      have hl : (pkl M M.k).length = M.k := pkl_len _ _
      have HPl := Lib.hid (show RpAt (wr.setCell ⟨w.heap.size, 3, none⟩ (.slice B M.k cB)) w.heap.size { r with PA := B, pc := cB } M.pack by
        have := HRP.out.setP B cB (pkl M M.k)
        rwa [hl] at this)
      have HTl := Lib.hid (there_setG HT2'.out ⟨w.heap.size, 3, none⟩ (.slice B M.k cB))
      have hf3 := (HT1.out 3 (by decide)).2
      rw [Nat.zero_add] at hf3
      go_upto_region 9 with fail
      go_step
      refine wp_load_rp rfl _ rfl w.heap.size { r with PA := B, pc := cB } M.pack rfl HPl.out ?_
      refine wp_store_rp rfl _ _ rfl (w.heap.size + 1) { r with PA := B, pc := cB } M.pack rfl rfl HTl.out ?_
      repeat go_step
      refine ret_rp1 rfl rfl (RpAt.stored HTl.out { r with PA := B, pc := cB } M.pack) rfl ?_
      rw [HRR.out]
      have hbe : Below w.heap.size w ((wr.setCell ⟨w.heap.size, 3, none⟩ (.slice B M.k cB)).setCells (w.heap.size + 1) 0 (rpC { r with PA := B, pc := cB } M.pack)) := below_setCellsR (hb.setCell (Nat.le_refl _) _) (by omega) _ _
      have hV := HV.out.keep hbe
      refine ⟨{ r with PA := B, pc := cB }, rfl, ⟨hV.front, hV.fcap, hV.cells, hV.rows, hV.ccap, ?_, ?_⟩, hbe⟩
      · have h1 : RdG wr (w.heap.size :: (w.heap.size + 1) :: bad) B (natC (pkl M M.k)) := HO.out.rd fun g hg => by
          rcases List.mem_cons.1 hg with h | h
          · omega
          · rcases List.mem_cons.1 h with h | h
            · omega
            · have := HBAD.out g h; omega
        refine h1.frame (fun i hi _ => ?_) (fun g hg => List.mem_cons_of_mem _ (List.mem_cons_of_mem _ hg))
        simp only [List.mem_cons, not_or] at hi
        rw [heap_setCells_ne _ _ _ _ (by omega), heap_setG_ne _ _ _ (by simp only; omega)]
      · show (pkl M M.k).length ≤ cB ∧ cB ≤ maxLen
        rw [hl]
        exact HO.out.cap

end Go.Proofs.Ytoeaffmlolapnaa
