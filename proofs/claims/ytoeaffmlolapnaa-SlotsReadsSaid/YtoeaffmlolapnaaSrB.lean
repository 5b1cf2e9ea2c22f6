/- Walk: the document's page: Remove. Printed by genRsB.py. -/
import Derived.Test.YtoeaffmlolapnaaSrA
import Derived.Test.YtoeaffmlolapnaaSlT
import Derived.Test.YtoeaffmlolapnaaOrz
namespace Go.Proofs.Ytoeaffmlolapnaa
open Go.RowKit
set_option maxRecDepth 100000
set_option linter.unusedVariables false
set_option linter.unusedSimpArgs false
set_option linter.unnecessarySimpa false

set_option maxHeartbeats 32000000 in
theorem rRem_any (w : World) (bad : List Nat) (M : Mdl) (r : RV) (hr : RefV w bad M r) (hg : Sm M) (hbad : ∀ g ∈ bad, g < w.heap.size) (i : Int) (i0 : -9223372036854775808 ≤ i) (i1 : i ≤ 9223372036854775807) (R : Ending → World → Prop) (hR : R = RefDeed w bad (remM M i)) :
    Calls Try.prog 57 #[r.val M, .int .i64 i] w R := by
  have HRR := Lib.hid hR; clear hR
  have HV := Lib.hid hr
  have HBAD := Lib.hid hbad
  have hk := hg.k1
  have hn := hg.n1
  have hh := hg.h1
  have HSM := Lib.hid hg.same
  obtain ⟨W1, hW1⟩ : ∃ W, W = w.alloc (.cells #[.int .i64 (M.n : Int), .slice r.FA M.h r.fc, .slice r.CA M.k r.cc, .slice r.PA M.P.length r.pc] 33) := ⟨_, rfl⟩
  have hb1 : Below w.heap.size w W1 := by rw [hW1]; exact (Below.refl _ _).alloc (Nat.le_refl _) _
  have hs1 : W1.heap.size = w.heap.size + 1 := by rw [hW1]; simp
  have hR1 : RpAt W1 w.heap.size r M := by rw [hW1]; exact RpAt.made w r M _
  have hT1 : W1.there w.heap.size 0 4 := by rw [hW1]; exact there_new4 w _ _ _ _ _
  obtain ⟨W2, hW2⟩ : ∃ W, W = W1.alloc (.cells #[.int .i64 0, .slice none 0 0, .slice none 0 0, .slice none 0 0] 33) := ⟨_, rfl⟩
  have hb12 : Below W1.heap.size W1 W2 := by rw [hW2]; exact (Below.refl _ _).alloc (Nat.le_refl _) _
  have hs2 : W2.heap.size = w.heap.size + 2 := by rw [hW2]; simp [hs1]
  have hT2 : W2.there (w.heap.size + 1) 0 4 := by rw [hW2, ← hs1]; exact there_new4 W1 _ _ _ _ _
  have hb2 : Below w.heap.size w W2 := hb1.trans (hb12.mono hb1.size)
  have HR2 := Lib.hid (hR1.keep hb12)
  have HT12 := Lib.hid (there_keepR hT1 hb12 (by omega))
  have HT2 := Lib.hid hT2
  have HWW := Lib.hid hW2
  rw [hW1] at HWW
  clear hW1 hW2 hR1 hT1 hT2 hr hg hbad hb12 hs1 hb1
  have HV2 := Lib.hid (((HV.out.more (g := w.heap.size + 1) (by omega)).more (g := w.heap.size) (Nat.le_refl _)).keep hb2)
  obtain ⟨bad2, hbad2⟩ : ∃ b, b = w.heap.size :: (w.heap.size + 1) :: bad := ⟨_, rfl⟩
  rw [← hbad2] at HV2
  have HB2 := Lib.hid (show ∀ g ∈ bad2, g < w.heap.size + 2 from fun g hg => by
    rw [hbad2] at hg
    rcases List.mem_cons.1 hg with h | h
    · omega
    · rcases List.mem_cons.1 h with h | h
      · omega
      · have := HBAD.out g h; omega)
  have HB0 := Lib.hid (show w.heap.size ∈ bad2 by rw [hbad2]; simp)
  have HB1 := Lib.hid (show w.heap.size + 1 ∈ bad2 by rw [hbad2]; simp)
  have HBS := Lib.hid (show ∀ g ∈ bad, g ∈ bad2 from fun g hg => by rw [hbad2]; exact List.mem_cons_of_mem _ (List.mem_cons_of_mem _ hg))
  have hz2 : w.heap.size + 2 ≤ W2.heap.size := by omega
  clear hbad2 hs2
  unfold RV.val
  obtain ⟨m0, m1, m2, m3⟩ := HR2.out.all
  by_cases harg : i < 0 ∨ (M.k : Int) ≤ i
  · have HF := Lib.hid (show remM M i = (M, 1) from if_pos harg)
    rcases (by omega : i < 0 ∨ (0 ≤ i ∧ (M.k : Int) ≤ i)) with h1 | ⟨h1, h2⟩
    all_goals
      clear harg
      go_enter Try.func57, Try.ntmps57
      go_upto_region 1 with fail
      rw [← HWW.out]
      clear HWW
      go_upto_region 2 with fail
      go_step
      refine wp_load_rp rfl _ rfl w.heap.size r M rfl HR2.out ?_
      refine wp_store_rp rfl _ _ rfl (w.heap.size + 1) r M rfl rfl HT2.out ?_
      repeat go_step
      refine ret_rp rfl rfl (RpAt.stored HT2.out r M) rfl ?_
      have hbe : Below w.heap.size w (W2.setCells (w.heap.size + 1) 0 (rpC r M)) := below_setCellsR hb2 (by omega) _ _
      rw [HRR.out, HF.out]
      exact ⟨r, rfl, HV.out.keep hbe, hbe⟩
  obtain ⟨j, rfl⟩ := Int.eq_ofNat_of_zero_le (show 0 ≤ i by omega)
  have hjk : j < M.k := by omega
  have HF := Lib.hid (show remM M (j : Int) = (M.del j, 0) by
    unfold remM
    rw [if_neg harg, Int.toNat_natCast])
  clear harg
  have e1 : IntKind.i64.wrap ((j : Int) + 1) = (j : Int) + 1 := IntWalk.i64_in _ (by omega)
  -- the cells
  have hcc := HV2.out.ccap
  have HSL := Lib.hid HV2.out.rows.len
  have hSk : r.S.length = M.k := HSL.out
  have hcut1 := run_cut_toG 30 29 Try.underlying30 sz_sl r.CA M.k r.cc j (by omega)
  have hcut2 := run_cut_fromG 30 29 Try.underlying30 sz_sl r.CA M.k r.cc (j + 1) (by omega)
  rw [show ((j + 1 : Nat) : Int) = (j : Int) + 1 from rfl] at hcut2
  obtain ⟨D1, hD1⟩ : ∃ D, cutA r.CA r.cc 0 = D := ⟨_, rfl⟩
  obtain ⟨D2, hD2⟩ : ∃ D, cutA r.CA r.cc (j + 1) = D := ⟨_, rfl⟩
  rw [hD1] at hcut1
  rw [hD2] at hcut2
  have HRC1 := Lib.hid (show RdG W2 bad2 D1 (rowC (r.S.take j)) by rw [← hD1, rowC_take]; exact (HV2.out.cells.head _ (by rw [rowC_len, hSk]; exact hcc.1)).take j)
  have HRC2 := Lib.hid (show RdG W2 bad2 D2 (rowC (r.S.drop (j + 1))) by rw [← hD2, rowC_drop]; exact HV2.out.cells.cut _ _ (by rw [rowC_len, hSk]; exact hcc.1))
  have HLT := Lib.hid (show (rowC (r.S.take j)).length = j by rw [rowC_len, List.length_take, hSk]; omega)
  have HLD := Lib.hid (show (rowC (r.S.drop (j + 1))).length = M.k - (j + 1) by rw [rowC_len, List.length_drop, hSk])
  clear hD1 hD2 hSk
  go_enter Try.func57, Try.ntmps57
  go_upto_region 1 with fail
  rw [← HWW.out]
  clear HWW
  have K2 : ∀ W : World, Below W2.heap.size W2 W → W.cell? ⟨w.heap.size, 2, none⟩ = some (.slice r.CA M.k r.cc) := fun W hW => (HR2.out.keep hW).all.2.2.1
  go_upto_region 3 with fail
  clear m0 m1 m2 m3
  refine wp_region_z (z := 13) (S := (fun W => Below W2.heap.size W2 W)) (by kernel_rfl) ?_ (fun hHeld => ?_)
  · exact (Below.refl _ W2).drew
  refine' wpAnyZ_take (i := 1) (oi := _) (v := _) rfl (by kernel_rfl) (by kernel_rfl) (by kernel_rfl) (by kernel_rfl) (fun _ _ _ h => h) (Or.inl ⟨by rfl, ?hw1⟩) (by assumption) ?rezw1
  case hw1 => (intro w' hSw; (try dsimp only at hSw); go_simp; try with_reducible rfl)
  try simp only [Act.put, List.setIfInBounds_toArray, List.set_cons_zero, List.set_cons_succ, List.getElem_toArray, List.getElem_cons_zero, List.getElem_cons_succ]
  refine' wpAnyZ_take (i := 2) (oi := _) (v := _) rfl (by kernel_rfl) (by kernel_rfl) (by kernel_rfl) (by kernel_rfl) (fun _ _ _ h => h) (Or.inl ⟨by rfl, ?hw2⟩) (by assumption) ?rezw2
  case hw2 => (intro w' hSw; (try dsimp only at hSw); go_simp; try with_reducible rfl)
  try simp only [Act.put, List.setIfInBounds_toArray, List.set_cons_zero, List.set_cons_succ, List.getElem_toArray, List.getElem_cons_zero, List.getElem_cons_succ]
  refine' wpAnyZ_take (i := 3) (oi := _) (v := _) rfl (by kernel_rfl) (by kernel_rfl) (by kernel_rfl) (by kernel_rfl) (fun _ _ _ h => h) (Or.inl ⟨by rfl, ?hw3⟩) (by assumption) ?rezw3
  case hw3 => (intro w' hSw; (try dsimp only at hSw); go_simp; try with_reducible rfl)
  try simp only [Act.put, List.setIfInBounds_toArray, List.set_cons_zero, List.set_cons_succ, List.getElem_toArray, List.getElem_cons_zero, List.getElem_cons_succ]
  refine' wpAnyZ_take (i := 4) (oi := _) (v := _) rfl (by kernel_rfl) (by kernel_rfl) (by kernel_rfl) (by kernel_rfl) (fun _ _ _ h => h) (Or.inl ⟨by rfl, ?hw4⟩) (by assumption) ?rezw4
  case hw4 => (intro w' hSw; (try dsimp only at hSw); go_simp; try with_reducible rfl)
  try simp only [Act.put, List.setIfInBounds_toArray, List.set_cons_zero, List.set_cons_succ, List.getElem_toArray, List.getElem_cons_zero, List.getElem_cons_succ]
  refine' wpAnyZ_take (i := 6) (oi := _) (v := _) rfl (by kernel_rfl) (by kernel_rfl) (by kernel_rfl) (by kernel_rfl) (fun _ _ _ h => h) (Or.inl ⟨by rfl, ?hw5⟩) (by assumption) ?rezw5
  case hw5 => (intro w' hSw; (try dsimp only at hSw); go_simp; try with_reducible rfl)
  try simp only [Act.put, List.setIfInBounds_toArray, List.set_cons_zero, List.set_cons_succ, List.getElem_toArray, List.getElem_cons_zero, List.getElem_cons_succ]
  refine' wpAnyZ_take (i := 7) (oi := _) (v := _) rfl (by kernel_rfl) (by kernel_rfl) (by kernel_rfl) (by kernel_rfl) (fun _ _ _ h => h) (Or.inl ⟨by rfl, ?hw6⟩) (by assumption) ?rezw6
  case hw6 => (intro w' hSw; (try dsimp only at hSw); go_simp; try with_reducible rfl)
  try simp only [Act.put, List.setIfInBounds_toArray, List.set_cons_zero, List.set_cons_succ, List.getElem_toArray, List.getElem_cons_zero, List.getElem_cons_succ]
  refine' wpAnyZ_take (i := 8) (oi := _) (v := _) rfl (by kernel_rfl) (by kernel_rfl) (by kernel_rfl) (by kernel_rfl) (fun _ _ _ h => h) (Or.inl ⟨by rfl, ?hw7⟩) (by assumption) ?rezw7
  case hw7 => (intro w' hSw; (try dsimp only at hSw); go_simp; try with_reducible rfl)
  try simp only [Act.put, List.setIfInBounds_toArray, List.set_cons_zero, List.set_cons_succ, List.getElem_toArray, List.getElem_cons_zero, List.getElem_cons_succ]
  refine' wpAnyZ_take (i := 9) (oi := _) (v := _) rfl (by kernel_rfl) (by kernel_rfl) (by kernel_rfl) (by kernel_rfl) (fun _ _ _ h => h) (Or.inl ⟨by rfl, ?hw8⟩) (by assumption) ?rezw8
  case hw8 => (intro w' hSw; (try dsimp only at hSw); go_simp; try with_reducible rfl)
  try simp only [Act.put, List.setIfInBounds_toArray, List.set_cons_zero, List.set_cons_succ, List.getElem_toArray, List.getElem_cons_zero, List.getElem_cons_succ]
  refine' wpAnyZ_take (i := 10) (oi := _) (v := _) rfl (by kernel_rfl) (by kernel_rfl) (by kernel_rfl) (by kernel_rfl) (fun _ _ _ h => h) (Or.inl ⟨by rfl, ?hw9⟩) (by assumption) ?rezw9
  case hw9 => (intro w' hSw; (try dsimp only at hSw); go_simp; try with_reducible rfl)
  try simp only [Act.put, List.setIfInBounds_toArray, List.set_cons_zero, List.set_cons_succ, List.getElem_toArray, List.getElem_cons_zero, List.getElem_cons_succ]
  refine wpAnyZ_one (i := 0) (o := _) (by kernel_rfl) rfl (fun K hK => ?_)
  go_simp
  refine hK.out _ _ ?_ (fun hHeld => ?_)
  · exact ((Below.refl _ W2).alloc (Nat.le_refl _) _).drew
  clear hK K
  try simp only [Act.put, List.setIfInBounds_toArray, List.set_cons_zero, List.set_cons_succ, List.getElem_toArray, List.getElem_cons_zero, List.getElem_cons_succ]
  have HOL := Lib.hid (show OwnG 29 ((W2.alloc (.cells #[] 29)).drew) W2.heap.size (some ⟨W2.heap.size, 0, none⟩) 0 0 [] from OwnG.lit 29 W2 _ (Nat.le_refl _))
  have hba : Below W2.heap.size W2 (W2.alloc (.cells #[] 29)).drew := ((Below.refl _ W2).alloc (Nat.le_refl _) _).drew
  have hza : W2.heap.size ≤ ((W2.alloc (.cells #[] 29)).drew).heap.size := hba.size
  obtain ⟨WA, hWA⟩ : ∃ W, W = (W2.alloc (.cells #[] 29)).drew := ⟨_, rfl⟩
  rw [← hWA] at HOL hba hza ⊢
  clear hWA
  refine wpAnyZ_one (i := 5) (o := _) (by kernel_rfl) rfl (fun K hK => ?_)
  refine step_append_g 30 29 (.slice none 0 0) 24 Try.underlying30 info_sl rfl (by omega) rfl (.tmp 16) (.tmp 20) rfl W2.heap.size _ _ _ [] rfl HOL.out D1 j r.cc _ rfl HLT.out (HRC1.out.keep hba).less (rowC_one _) (by omega) hza ?_
  intro A4 c4 w4 hown4 hb4 _
  simp only [List.nil_append, Nat.zero_add] at hown4 ⊢
  have hb24 : Below W2.heap.size W2 w4 := hba.trans hb4
  have HO4 := Lib.hid hown4
  have hz4 := hb24.size
  clear hown4 hb4
  refine hK.out _ _ ?_ (fun hHeld => ?_)
  · exact hb24
  clear hK K
  try simp only [Act.put, List.setIfInBounds_toArray, List.set_cons_zero, List.set_cons_succ, List.getElem_toArray, List.getElem_cons_zero, List.getElem_cons_succ]
  clear hba hza HOL
  refine wpAnyZ_one (i := 11) (o := _) (by kernel_rfl) rfl (fun K hK => ?_)
  refine step_append_g 30 29 (.slice none 0 0) 24 Try.underlying30 info_sl rfl (by omega) rfl (.tmp 21) (.tmp 26) rfl W2.heap.size A4 j c4 _ rfl HO4.out D2 (M.k - (j + 1)) (r.cc - (j + 1)) _ rfl HLD.out (HRC2.out.keep hb24).less (rowC_one _) (by omega) hz4 ?_
  intro A5 c5 w5 hown5 hb5 _
  have hb25 : Below W2.heap.size W2 w5 := hb24.trans hb5
  have hkk : j + (M.k - (j + 1)) = M.k - 1 := by omega
  rw [hkk] at hown5 ⊢
  have HO5 := Lib.hid hown5
  have hz5 := hb25.size
  clear hown5 hb5 hkk
  refine hK.out _ _ ?_ (fun hHeld => ?_)
  · exact hb25
  clear hK K
  try simp only [Act.put, List.setIfInBounds_toArray, List.set_cons_zero, List.set_cons_succ, List.getElem_toArray, List.getElem_cons_zero, List.getElem_cons_succ]
  refine' wpAnyZ_take (i := 12) (oi := _) (v := _) rfl (by kernel_rfl) (by kernel_rfl) (by kernel_rfl) (by kernel_rfl) (fun _ _ _ h => h) (Or.inl ⟨by rfl, ?hw10⟩) (by assumption) ?rezw10
  case hw10 => (intro w' hSw; (try dsimp only at hSw); go_simp; try with_reducible rfl)
  try simp only [Act.put, List.setIfInBounds_toArray, List.set_cons_zero, List.set_cons_succ, List.getElem_toArray, List.getElem_cons_zero, List.getElem_cons_succ]
  clear hb24 hz4 HO4 hcut1 hcut2 HRC1 HRC2 HLT HLD
  have HR5 := Lib.hid (HR2.out.keep hb25)
  have HT15 := Lib.hid (there_keepR HT12.out hb25 (by omega))
  have HT5 := Lib.hid (there_keepR HT2.out hb25 (by omega))
  have hb5 : Below w.heap.size w w5 := hb2.trans (hb25.mono (by omega))
  have m2 := HR5.out.all.2.2.1
  have hf2 := (HT15.out 2 (by decide)).2
  rw [Nat.zero_add] at hf2
  obtain ⟨C', hC'⟩ : ∃ C', C' = M.C.take j ++ M.C.drop (j + 1) := ⟨_, rfl⟩
  obtain ⟨S', hS'⟩ : ∃ S', S' = r.S.take j ++ r.S.drop (j + 1) := ⟨_, rfl⟩
  have hCl : C'.length = M.k - 1 := by rw [hC']; simp; show min j M.k + (M.k - (j + 1)) = _; omega
  have HOS := Lib.hid (show OwnG 29 w5 W2.heap.size A5 (M.k - 1) c5 (rowC S') by
    have := HO5.out
    rw [hS', rowC_app]
    simpa [rowC] using this)
  have HRpC := Lib.hid (show RpAt (w5.setCell ⟨w.heap.size, 2, none⟩ (.slice A5 (M.k - 1) c5)) w.heap.size { r with CA := A5, cc := c5, S := S' } { M with C := C' } by
    have := HR5.out.setC A5 c5 C' S'
    rwa [hCl] at this)
  have HCL := Lib.hid hCl
  have HCE := Lib.hid hC'
  have HSE := Lib.hid hS'
  clear hC' hS' hCl HO5
  refine wpAnyZ_last (o := _) (by kernel_rfl) rfl (by kernel_rfl) (fun K hK => ?_)
  go_simp
  refine hK _ _ ?_
  clear hK K
  try simp only [Act.put, List.setIfInBounds_toArray, List.set_cons_zero, List.set_cons_succ, List.getElem_toArray, List.getElem_cons_zero, List.getElem_cons_succ]
  obtain ⟨W6, hW6⟩ : ∃ W, W = w5.setCell ⟨w.heap.size, 2, none⟩ (.slice A5 (M.k - 1) c5) := ⟨_, rfl⟩
  have hb6 : Below w.heap.size w W6 := by rw [hW6]; exact hb5.setCell (Nat.le_refl _) _
  have HT16 := Lib.hid (show W6.there w.heap.size 0 4 by rw [hW6]; exact there_setG HT15.out _ _)
  have HT6 := Lib.hid (show W6.there (w.heap.size + 1) 0 4 by rw [hW6]; exact there_setG HT5.out _ _)
  have hz6 : w5.heap.size ≤ W6.heap.size ∧ W6.heap.size ≤ w5.heap.size := by have := size_setG w5 ⟨w.heap.size, 2, none⟩ (.slice A5 (M.k - 1) c5); rw [← hW6] at this; omega
  have HFR := Lib.hid (show ∀ i, i ≠ w.heap.size → W6.heap[i]? = w5.heap[i]? from fun i hi => by rw [hW6]; exact heap_setG_ne _ _ _ hi)
  rw [← hW6] at HRpC ⊢
  clear hW6 m2 hf2 HT15 HT5 HR5 K2
  -- the places
  have hPk : M.P.length ≤ M.k ∧ M.k ≤ M.P.length := by have := HSM.out; omega
  have hpc := HV2.out.pcap
  have hcut1 := run_cut_toG 31 3 Try.underlying31 sz_in r.PA M.P.length r.pc j (by omega)
  have hcut2 := run_cut_fromG 31 3 Try.underlying31 sz_in r.PA M.P.length r.pc (j + 1) (by omega)
  rw [show ((j + 1 : Nat) : Int) = (j : Int) + 1 from rfl] at hcut2
  obtain ⟨D3, hD3⟩ : ∃ D, cutA r.PA r.pc 0 = D := ⟨_, rfl⟩
  obtain ⟨D4, hD4⟩ : ∃ D, cutA r.PA r.pc (j + 1) = D := ⟨_, rfl⟩
  rw [hD3] at hcut1
  rw [hD4] at hcut2
  have hP6 : RdG W6 bad2 r.PA (natC M.P) := (HV2.out.places.keep hb25).frame (fun i hi _ => HFR.out i (fun e => hi (by rw [e]; exact HB0.out))) (fun g hg => hg)
  have HRP3 := Lib.hid (show RdG W6 bad2 D3 (natC (M.P.take j)) by rw [← hD3, natC_take]; exact (hP6.head _ (by rw [natC_len]; exact hpc.1)).take j)
  have HRP4 := Lib.hid (show RdG W6 bad2 D4 (natC (M.P.drop (j + 1))) by rw [← hD4, natC_drop]; exact hP6.cut _ _ (by rw [natC_len]; exact hpc.1))
  have HLP3 := Lib.hid (show (natC (M.P.take j)).length = j by rw [natC_len, List.length_take]; omega)
  have HLP4 := Lib.hid (show (natC (M.P.drop (j + 1))).length = M.P.length - (j + 1) by rw [natC_len, List.length_drop])
  clear hD3 hD4 hP6
  have K3 : ∀ W : World, Below W6.heap.size W6 W → W.cell? ⟨w.heap.size, 3, none⟩ = some (.slice r.PA M.P.length r.pc) := fun W hW => (HRpC.out.keep hW).all.2.2.2
  go_upto_region 4 with fail
  refine wp_region_z (z := 13) (S := (fun W => Below W6.heap.size W6 W)) (by kernel_rfl) ?_ (fun hHeld => ?_)
  · exact (Below.refl _ W6).drew
  refine' wpAnyZ_take (i := 1) (oi := _) (v := _) rfl (by kernel_rfl) (by kernel_rfl) (by kernel_rfl) (by kernel_rfl) (fun _ _ _ h => h) (Or.inl ⟨by rfl, ?hw11⟩) (by assumption) ?rezw11
  case hw11 => (intro w' hSw; (try dsimp only at hSw); go_simp; try with_reducible rfl)
  try simp only [Act.put, List.setIfInBounds_toArray, List.set_cons_zero, List.set_cons_succ, List.getElem_toArray, List.getElem_cons_zero, List.getElem_cons_succ]
  refine' wpAnyZ_take (i := 2) (oi := _) (v := _) rfl (by kernel_rfl) (by kernel_rfl) (by kernel_rfl) (by kernel_rfl) (fun _ _ _ h => h) (Or.inl ⟨by rfl, ?hw12⟩) (by assumption) ?rezw12
  case hw12 => (intro w' hSw; (try dsimp only at hSw); go_simp; try with_reducible rfl)
  try simp only [Act.put, List.setIfInBounds_toArray, List.set_cons_zero, List.set_cons_succ, List.getElem_toArray, List.getElem_cons_zero, List.getElem_cons_succ]
  refine' wpAnyZ_take (i := 3) (oi := _) (v := _) rfl (by kernel_rfl) (by kernel_rfl) (by kernel_rfl) (by kernel_rfl) (fun _ _ _ h => h) (Or.inl ⟨by rfl, ?hw13⟩) (by assumption) ?rezw13
  case hw13 => (intro w' hSw; (try dsimp only at hSw); go_simp; try with_reducible rfl)
  try simp only [Act.put, List.setIfInBounds_toArray, List.set_cons_zero, List.set_cons_succ, List.getElem_toArray, List.getElem_cons_zero, List.getElem_cons_succ]
  refine' wpAnyZ_take (i := 4) (oi := _) (v := _) rfl (by kernel_rfl) (by kernel_rfl) (by kernel_rfl) (by kernel_rfl) (fun _ _ _ h => h) (Or.inl ⟨by rfl, ?hw14⟩) (by assumption) ?rezw14
  case hw14 => (intro w' hSw; (try dsimp only at hSw); go_simp; try with_reducible rfl)
  try simp only [Act.put, List.setIfInBounds_toArray, List.set_cons_zero, List.set_cons_succ, List.getElem_toArray, List.getElem_cons_zero, List.getElem_cons_succ]
  refine' wpAnyZ_take (i := 6) (oi := _) (v := _) rfl (by kernel_rfl) (by kernel_rfl) (by kernel_rfl) (by kernel_rfl) (fun _ _ _ h => h) (Or.inl ⟨by rfl, ?hw15⟩) (by assumption) ?rezw15
  case hw15 => (intro w' hSw; (try dsimp only at hSw); go_simp; try with_reducible rfl)
  try simp only [Act.put, List.setIfInBounds_toArray, List.set_cons_zero, List.set_cons_succ, List.getElem_toArray, List.getElem_cons_zero, List.getElem_cons_succ]
  refine' wpAnyZ_take (i := 7) (oi := _) (v := _) rfl (by kernel_rfl) (by kernel_rfl) (by kernel_rfl) (by kernel_rfl) (fun _ _ _ h => h) (Or.inl ⟨by rfl, ?hw16⟩) (by assumption) ?rezw16
  case hw16 => (intro w' hSw; (try dsimp only at hSw); go_simp; try with_reducible rfl)
  try simp only [Act.put, List.setIfInBounds_toArray, List.set_cons_zero, List.set_cons_succ, List.getElem_toArray, List.getElem_cons_zero, List.getElem_cons_succ]
  refine' wpAnyZ_take (i := 8) (oi := _) (v := _) rfl (by kernel_rfl) (by kernel_rfl) (by kernel_rfl) (by kernel_rfl) (fun _ _ _ h => h) (Or.inl ⟨by rfl, ?hw17⟩) (by assumption) ?rezw17
  case hw17 => (intro w' hSw; (try dsimp only at hSw); go_simp; try with_reducible rfl)
  try simp only [Act.put, List.setIfInBounds_toArray, List.set_cons_zero, List.set_cons_succ, List.getElem_toArray, List.getElem_cons_zero, List.getElem_cons_succ]
  refine' wpAnyZ_take (i := 9) (oi := _) (v := _) rfl (by kernel_rfl) (by kernel_rfl) (by kernel_rfl) (by kernel_rfl) (fun _ _ _ h => h) (Or.inl ⟨by rfl, ?hw18⟩) (by assumption) ?rezw18
  case hw18 => (intro w' hSw; (try dsimp only at hSw); go_simp; try with_reducible rfl)
  try simp only [Act.put, List.setIfInBounds_toArray, List.set_cons_zero, List.set_cons_succ, List.getElem_toArray, List.getElem_cons_zero, List.getElem_cons_succ]
  refine' wpAnyZ_take (i := 10) (oi := _) (v := _) rfl (by kernel_rfl) (by kernel_rfl) (by kernel_rfl) (by kernel_rfl) (fun _ _ _ h => h) (Or.inl ⟨by rfl, ?hw19⟩) (by assumption) ?rezw19
  case hw19 => (intro w' hSw; (try dsimp only at hSw); go_simp; try with_reducible rfl)
  try simp only [Act.put, List.setIfInBounds_toArray, List.set_cons_zero, List.set_cons_succ, List.getElem_toArray, List.getElem_cons_zero, List.getElem_cons_succ]
  refine wpAnyZ_one (i := 0) (o := _) (by kernel_rfl) rfl (fun K hK => ?_)
  go_simp
  refine hK.out _ _ ?_ (fun hHeld => ?_)
  · exact ((Below.refl _ W6).alloc (Nat.le_refl _) _).drew
  clear hK K
  try simp only [Act.put, List.setIfInBounds_toArray, List.set_cons_zero, List.set_cons_succ, List.getElem_toArray, List.getElem_cons_zero, List.getElem_cons_succ]
  have HOL := Lib.hid (show OwnG 3 ((W6.alloc (.cells #[] 3)).drew) W6.heap.size (some ⟨W6.heap.size, 0, none⟩) 0 0 [] from OwnG.lit 3 W6 _ (Nat.le_refl _))
  have hba : Below W6.heap.size W6 (W6.alloc (.cells #[] 3)).drew := ((Below.refl _ W6).alloc (Nat.le_refl _) _).drew
  have hza : W6.heap.size ≤ ((W6.alloc (.cells #[] 3)).drew).heap.size := hba.size
  obtain ⟨WA, hWA⟩ : ∃ W, W = (W6.alloc (.cells #[] 3)).drew := ⟨_, rfl⟩
  rw [← hWA] at HOL hba hza ⊢
  clear hWA
  refine wpAnyZ_one (i := 5) (o := _) (by kernel_rfl) rfl (fun K hK => ?_)
  refine step_append_g 31 3 (.int .i64 0) 8 Try.underlying31 info_in rfl (by omega) rfl (.tmp 29) (.tmp 33) rfl W6.heap.size _ _ _ [] rfl HOL.out D3 j r.pc _ rfl HLP3.out (HRP3.out.keep hba).less (natC_one _) (by omega) hza ?_
  intro A7 c7 w7 hown7 hb7 _
  simp only [List.nil_append, Nat.zero_add] at hown7 ⊢
  have hb67 : Below W6.heap.size W6 w7 := hba.trans hb7
  have HO7 := Lib.hid hown7
  have hz7 := hb67.size
  clear hown7 hb7
  refine hK.out _ _ ?_ (fun hHeld => ?_)
  · exact hb67
  clear hK K
  try simp only [Act.put, List.setIfInBounds_toArray, List.set_cons_zero, List.set_cons_succ, List.getElem_toArray, List.getElem_cons_zero, List.getElem_cons_succ]
  clear hba hza HOL
  refine wpAnyZ_one (i := 11) (o := _) (by kernel_rfl) rfl (fun K hK => ?_)
  refine step_append_g 31 3 (.int .i64 0) 8 Try.underlying31 info_in rfl (by omega) rfl (.tmp 34) (.tmp 39) rfl W6.heap.size A7 j c7 _ rfl HO7.out D4 (M.P.length - (j + 1)) (r.pc - (j + 1)) _ rfl HLP4.out (HRP4.out.keep hb67).less (natC_one _) (by omega) hz7 ?_
  intro A8 c8 w8 hown8 hb8 _
  have hb68 : Below W6.heap.size W6 w8 := hb67.trans hb8
  have HO8 := Lib.hid hown8
  have hz8 := hb68.size
  clear hown8 hb8
  refine hK.out _ _ ?_ (fun hHeld => ?_)
  · exact hb68
  clear hK K
  try simp only [Act.put, List.setIfInBounds_toArray, List.set_cons_zero, List.set_cons_succ, List.getElem_toArray, List.getElem_cons_zero, List.getElem_cons_succ]
  refine' wpAnyZ_take (i := 12) (oi := _) (v := _) rfl (by kernel_rfl) (by kernel_rfl) (by kernel_rfl) (by kernel_rfl) (fun _ _ _ h => h) (Or.inl ⟨by rfl, ?hw20⟩) (by assumption) ?rezw20
  case hw20 => (intro w' hSw; (try dsimp only at hSw); go_simp; try with_reducible rfl)
  try simp only [Act.put, List.setIfInBounds_toArray, List.set_cons_zero, List.set_cons_succ, List.getElem_toArray, List.getElem_cons_zero, List.getElem_cons_succ]
  obtain ⟨P', hP'⟩ : ∃ P', P' = M.P.take j ++ M.P.drop (j + 1) := ⟨_, rfl⟩
  have hPl : P'.length = M.k - 1 := by rw [hP']; simp; omega
  have hkk : j + (M.P.length - (j + 1)) = P'.length := by omega
  rw [hkk] at HO8 ⊢
  have HOP := Lib.hid (show OwnG 3 w8 W6.heap.size A8 P'.length c8 (natC P') by
    have := HO8.out
    rw [← natC_app, ← hP'] at this
    exact this)
  have hb8 : Below w.heap.size w w8 := hb6.trans (hb68.mono (by omega))
  have HR8 := Lib.hid (HRpC.out.keep hb68)
  have HT18 := Lib.hid (there_keepR HT16.out hb68 (by omega))
  have HT8 := Lib.hid (there_keepR HT6.out hb68 (by omega))
  clear hkk hcut1 hcut2 HO8 HO7 hb67 hz7 K3
  have m3 := HR8.out.all.2.2.2
  simp only at m3
  have hf3 := (HT18.out 3 (by decide)).2
  rw [Nat.zero_add] at hf3
  obtain ⟨rf, hrf⟩ : ∃ rf : RV, rf = { r with CA := A5, cc := c5, S := S', PA := A8, pc := c8 } := ⟨_, rfl⟩
  have hMf : M.del j = { M with C := C', P := P' } := by rw [HCE.out, hP']; rfl
  have HRf := Lib.hid (show RpAt (w8.setCell ⟨w.heap.size, 3, none⟩ (.slice A8 P'.length c8)) w.heap.size rf (M.del j) by
    rw [hMf, hrf]
    exact HR8.out.setP A8 c8 P')
  have HTf := Lib.hid (there_setG HT8.out ⟨w.heap.size, 3, none⟩ (.slice A8 P'.length c8))
  have HMF := Lib.hid hMf
  have HRFE := Lib.hid hrf
  have HPL := Lib.hid hPl
  clear hP' hMf hrf hPl
  refine wpAnyZ_last (o := _) (by kernel_rfl) rfl (by kernel_rfl) (fun K hK => ?_)
  go_simp
  refine hK _ _ ?_
  clear hK K
  try simp only [Act.put, List.setIfInBounds_toArray, List.set_cons_zero, List.set_cons_succ, List.getElem_toArray, List.getElem_cons_zero, List.getElem_cons_succ]
  clear m3 hf3
  go_upto_region 5 with fail
  go_step
  refine wp_load_rp rfl _ rfl w.heap.size rf (M.del j) rfl HRf.out ?_
  refine wp_store_rp rfl _ _ rfl (w.heap.size + 1) rf (M.del j) rfl rfl HTf.out ?_
  repeat go_step
  refine ret_rp rfl rfl (RpAt.stored HTf.out rf (M.del j)) rfl ?_
  have hbe : Below w.heap.size w ((w8.setCell ⟨w.heap.size, 3, none⟩ (.slice A8 P'.length c8)).setCells (w.heap.size + 1) 0 (rpC rf (M.del j))) := below_setCellsR (hb8.setCell (Nat.le_refl _) _) (by omega) _ _
  have hfr : ∀ A vs, RdG w8 bad2 A vs → RdG ((w8.setCell ⟨w.heap.size, 3, none⟩ (.slice A8 P'.length c8)).setCells (w.heap.size + 1) 0 (rpC rf (M.del j))) bad A vs := fun A vs h => h.frame (fun i hi _ => by
    rw [heap_setCells_ne _ _ _ _ (fun e => hi (by rw [e]; exact HB1.out)), heap_setG_ne _ _ _ (fun e => hi (by simp only at e; rw [e]; exact HB0.out))]) HBS.out
  obtain ⟨WF, hWF⟩ : ∃ W, W = (w8.setCell ⟨w.heap.size, 3, none⟩ (.slice A8 P'.length c8)).setCells (w.heap.size + 1) 0 (rpC rf (M.del j)) := ⟨_, rfl⟩
  rw [← hWF] at hbe hfr ⊢
  clear hWF
  have h68 : ∀ A vs, RdG W6 bad2 A vs → RdG w8 bad2 A vs := fun A vs h => h.keep hb68
  have h56 : ∀ A vs, RdG w5 bad2 A vs → RdG W6 bad2 A vs := fun A vs h => h.frame (fun i hi _ => HFR.out i (fun e => hi (by rw [e]; exact HB0.out))) (fun g hg => hg)
  have h25 : ∀ A vs, RdG W2 bad2 A vs → RdG w5 bad2 A vs := fun A vs h => h.keep hb25
  rw [HRR.out, HF.out]
  refine ⟨rf, rfl, ?_, hbe⟩
  have hrows : Rows2 w5 bad2 S' C' := by
    rw [HSE.out, HCE.out]
    have hv := HV2.out.rows.map h25
    exact (hv.take j).app (hv.drop (j + 1))
  have hMf := HMF.out
  have hrf := HRFE.out
  rw [hMf, hrf]
  refine ⟨hfr _ _ (h68 _ _ (h56 _ _ (h25 _ _ HV2.out.front))), HV2.out.fcap, hfr _ _ (h68 _ _ (h56 _ _ (HOS.out.rd (fun g hg => by have := HB2.out g hg; omega)))), hrows.map (fun A vs h => hfr A vs (h68 A vs (h56 A vs h))), ?_, hfr _ _ (HOP.out.rd (fun g hg => by have := HB2.out g hg; omega)), HOP.out.cap⟩
  show C'.length ≤ c5 ∧ c5 ≤ maxLen
  rw [HCL.out]
  exact HOS.out.cap
end Go.Proofs.Ytoeaffmlolapnaa
