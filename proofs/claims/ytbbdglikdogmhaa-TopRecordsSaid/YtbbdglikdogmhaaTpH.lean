/- Walk: the law TopRecords. Printed by genTpH.py. -/
import Derived.Test.YtbbdglikdogmhaaTpG
import Derived.Test.YtbbdglikdogmhaaRcF
import Derived.Test.YtbbdglikdogmhaaRcC
namespace Go.Proofs.Ytbbdglikdogmhaa
open Go.RowKit
set_option maxRecDepth 100000
set_option linter.unusedVariables false
set_option linter.unusedSimpArgs false
set_option linter.unnecessarySimpa false

theorem run_cutV_to (A : Option Addr) (n c hi : Nat) (h : hi ≤ c) (w : World) :
    (Instr.slice 44 (.slice A n c) none (some (.int .i64 (hi : Int))) none).run Try.prog w = .ok (.slice A hi c) w := by
  rw [run_slice_h w 44 A n c Try.underlying44 .i64 (hi : Int) (by omega) (by omega)]
  have e : (sizeOf (Try.prog.elem 44)).run Try.prog w = .ok 1 w := by kernel_rfl
  rw [e]
  simp only [Result.andThen, sliced, Int.toNat_natCast, Nat.sub_zero, Nat.mul_one]
  congr 1
  split
  · rfl
  · cases A with
    | none => rfl
    | some a => simp [Addr.add]
theorem body_isB {v : Vl} (h : v.ok) : IsB (bodyV v) := by
  unfold bodyV
  split
  · exact fxL_isB _ _
  · exact h.2.2
theorem flat_isB {L : List (List Int)} (h : ∀ l ∈ L, IsB l) : IsB L.flatten := by
  intro x hx
  obtain ⟨l, hl, hxl⟩ := List.mem_flatten.1 hx
  exact h l hl x hxl
theorem enc_isB {F : List Vl} (h : ∀ v ∈ F, v.ok) : IsB (encV F).1 := by
  unfold encV
  repeat' split
  · intro x hx; simp at hx
  · intro x hx; simp at hx
  · intro x hx; simp at hx
  · intro x hx
    rcases List.mem_append.1 hx with hx | hx
    · rcases List.mem_append.1 hx with hx | hx
      · exact vl_isB _ x hx
      · refine flat_isB (L := F.map fun v => varL (codeV v)) ?_ x hx
        intro l hl
        obtain ⟨v, _, rfl⟩ := List.mem_map.1 hl
        exact vl_isB _
    · refine flat_isB (L := F.map bodyV) ?_ x hx
      intro l hl
      obtain ⟨v, hv, rfl⟩ := List.mem_map.1 hl
      exact body_isB (h v hv)
theorem cellKept {w w' : World} {A A' : Option Addr} {g : Nat} {v : Value} (hk : Kept w A w' A') (hl : g < w.heap.size) (hne : ∀ a, A = some a → a.block ≠ g) (hc : w.cell? ⟨g, 0, none⟩ = some v) : w'.cell? ⟨g, 0, none⟩ = some v := by
  rw [← hc]
  simp [World.cell?, hk.1 g hl hne]
theorem HSZ {w w' : World} {A A' : Option Addr} {B : Nat} (hk : Kept w A w' A') (hb : Below B w w') : w.heap.size ≤ w'.heap.size := hb.size
def LRel (w : World) (q : Nat) (wv iv sv jv : Value) (wr : World) : Prop :=
  ∃ (j : Nat) (WA : Option Addr) (wc : Nat) (M : List Rw) (IA : Option Addr) (ic : Nat) (N : List Rw) (SA : Option Addr) (sc : Nat) (S : List (List Int)), j ≤ q ∧ jv = .int .i64 (j : Int) ∧ wv = .slice WA M.length wc ∧ iv = .slice IA N.length ic ∧ sv = .slice SA S.length sc ∧
    L3 w wr WA wc M IA ic N SA sc S ∧ Gathered M N S ∧ M.length ≤ j ∧ (∀ r ∈ M, r.n ≤ 64)

theorem ownRd {E : TypeId} {w : World} {base : Nat} {A : Option Addr} {n c : Nat} {M : List Rw} (h : OwnG E w base A n c (hdrC M)) (hok : ∀ r ∈ M, RwOk w r) : RdVR w A M := by
  refine ⟨?_, hok⟩
  rcases h.rd (bad := []) (fun g hg => (by cases hg)) with q | ⟨b, off, e, _, hc⟩
  · left; simpa [hdrC] using q
  · right; exact ⟨b, off, e, fun i hi => hc i _ (by simp [hdrC, vw_, hi])⟩
theorem RdVR.one {w : World} {b off : Nat} {M : List Rw} (h : RdVR w (some ⟨b, off, none⟩) M) {i : Nat} (hi : i < M.length) : RdVR w (some ⟨b, off + i, none⟩) [vw_ M i] := by
  refine ⟨.inr ⟨b, off + i, rfl, fun k hk => ?_⟩, fun r hr => ?_⟩
  · obtain rfl : k = 0 := by simpa using hk
    obtain ⟨b1, o1, e, hc⟩ := h.at (by omega)
    cases e
    exact hc i hi
  · have : r = vw_ M i := by simpa using hr
    rw [this]; exact h.2 _ (vw_mem hi)
theorem valsOf_one {M N : List Rw} (i k : Nat) : valsOf [vw_ M i] = valsOf [vw_ N k] ↔ (vw_ M i).F = (vw_ N k).F := by simp [valsOf]
theorem run_cut1 (b off n c i : Nat) (h : i < n) (hc : n ≤ c) (w : World) :
    (Instr.slice 44 (.slice (some ⟨b, off, none⟩) n c) (some (.int .i64 (i : Int))) (some (.int .i64 ((i : Int) + 1))) none).run Try.prog w = .ok (.slice (some ⟨b, off + i, none⟩) 1 (c - i)) w := by
  rw [run_slice_lh w 44 _ n c Try.underlying44 .i64 .i64 (i : Int) ((i : Int) + 1) (by omega) (by omega) (by omega)]
  have e : (sizeOf (Try.prog.elem 44)).run Try.prog w = .ok 1 w := by kernel_rfl
  have e2 : ((i : Int) + 1).toNat = i + 1 := by omega
  rw [e]
  simp only [Result.andThen, sliced, Int.toNat_natCast, e2, Nat.mul_one]
  rw [show i + 1 - i = 1 by omega, if_neg (by omega)]
  simp [Addr.add_lit]
def st_ (S : List (List Int)) (i : Nat) : List Int := S.getD i []
theorem L3.str {w wr : World} {WA IA SA : Option Addr} {wc ic sc : Nat} {M N : List Rw} {S : List (List Int)} (h : L3 w wr WA wc M IA ic N SA sc S) (hl : 0 < S.length) : ∃ b off, SA = some ⟨b, off, none⟩ ∧ ∀ i, i < S.length → wr.cell? ⟨b, off + i, none⟩ = some (.string (strOfNums (st_ S i))) := by
  rcases h.srow.rd (bad := []) (fun g hg => (by cases hg)) with q | ⟨b, off, e, _, hc⟩
  · have : S.length = 0 := by rw [show S = [] by simpa [strC] using q]; rfl
    omega
  · exact ⟨b, off, e, fun i hi => hc i _ (by simp [strC, st_, hi])⟩
theorem L3.wrd {w wr : World} {WA IA SA : Option Addr} {wc ic sc : Nat} {M N : List Rw} {S : List (List Int)} (h : L3 w wr WA wc M IA ic N SA sc S) : RdVR wr WA M := ownRd h.wrow fun r hr => (h.mok r hr).keep h.bel
theorem L3.ird {w wr : World} {WA IA SA : Option Addr} {wc ic sc : Nat} {M N : List Rw} {S : List (List Int)} (h : L3 w wr WA wc M IA ic N SA sc S) : RdVR wr IA N := ownRd h.irow fun r hr => (h.nok r hr).ok
theorem Gathered.vals {M N : List Rw} {S : List (List Int)} (h : Gathered M N S) (i : Nat) : (vw_ N i).F = (vw_ M i).F := by rw [← vr_of, ← vr_of, h.1]
theorem Gathered.st {M N : List Rw} {S : List (List Int)} (h : Gathered M N S) {i : Nat} (hi : i < M.length) : st_ S i = (encV (vw_ M i).F).1 := by
  rw [h.2.1]
  simp [st_, vw_, hi]
theorem Gathered.eq {M N : List Rw} {S : List (List Int)} (h : Gathered M N S) (hv : ∀ r ∈ M, ∀ v ∈ r.F, VOk v) {i k : Nat} (hi : i < M.length) (hk : k < M.length) : st_ S i = st_ S k ↔ (vw_ M i).F = (vw_ M k).F := by
  rw [h.st hi, h.st hk]
  exact enc_inj (h.2.2 _ (vw_mem hi)) (h.2.2 _ (vw_mem hk)) (fun v hv' => (hv _ (vw_mem hi) v hv').1) (fun v hv' => (hv _ (vw_mem hk) v hv').1)
theorem Gathered.isB {M N : List Rw} {S : List (List Int)} (h : Gathered M N S) (hv : ∀ r ∈ M, ∀ v ∈ r.F, VOk v) {i : Nat} (hi : i < M.length) : IsB (st_ S i) := by
  rw [h.st hi]
  exact enc_isB fun v hv' => (hv _ (vw_mem hi) v hv').1
theorem Gathered.short {M N : List Rw} {S : List (List Int)} {w wr : World} (h : Gathered M N S) (hM : ∀ r ∈ M, RwOk w r) (hN : ∀ r ∈ N, RwOk wr r) (h64 : ∀ r ∈ M, r.n ≤ 64) : ∀ r ∈ N, r.n ≤ 100000 := by
  intro r hr
  have h1 : r.F ∈ valsOf M := by rw [h.1]; exact List.mem_map_of_mem hr
  obtain ⟨x, hx, e⟩ := List.mem_map.1 h1
  have h2 := (hM x hx).1
  have h3 := (hN r hr).1
  have h4 := h64 x hx
  rw [e] at h2
  omega

set_option maxHeartbeats 64000000 in
theorem topRecords_walk (w : World) (A : Option Addr) (n c : Nat) (L : List Rw) (C : Option Addr) (t e0 : Nat) (ks : List Ky) (u : Int) (hn : L.length = n) (hnc : n ≤ c) (hcm : c ≤ maxLen) (hA : RdVR w A L) (ht : ks.length = t) (hte : t ≤ e0) (hem : e0 ≤ maxLen) (hC : RdKy w C ks) (hK : ∀ k ∈ ks, KyOk k) (hu : 0 ≤ u ∧ u ≤ 255) :
    Calls Try.prog 8 #[.slice A n c, .slice C t e0, .int .u8 u] w fun e w' => e = .returned (.bool true) ∧ Below w.heap.size w w' := by
  have HN := Lib.hid hn
  have HA := Lib.hid hA
  have HT := Lib.hid ht
  have HC := Lib.hid hC
  have HK := Lib.hid hK
  have hn63 : n ≤ 9223372036854775807 := by unfold maxLen at hcm; omega
  obtain ⟨q, hq⟩ : ∃ q, min n 20 = q := ⟨_, rfl⟩
  have hq20 : q ≤ 20 ∧ q ≤ n := by omega
  have hmin : min (n : Int) 20 = (q : Int) := by omega
  have hcut := run_cutV_to A n c q (by omega)
  clear hn hA ht hC hK hq
  go_enter Try.func8, Try.ntmps8
  go_wp2_with fail
  refine (ocheck_any _ C t e0 ks HT.out (by omega) HC.out HK.out).mono ?_
  rintro e w1 ⟨z, rfl, hz, hb1⟩
  rcases hz with ⟨rfl, hall⟩ | ⟨rfl, _⟩
  case inr =>
    have q1 : ((1 : Int) != 0) = true := rfl
    go_wp2_with fail
    go_ret
    exact ⟨rfl, hb1⟩
  have q1 : ((0 : Int) != 0) = false := rfl
  have HL0 := Lib.hid (show L3 w w1 none 0 [] none 0 [] none 0 [] from (L3.nil w).keep hb1)
  go_upto_region 5 with fail
  go_cut [30, 31, 32] from 26 to 29 (fun a b d wx => a = .slice A q c ∧ b = .int .i64 (q : Int) ∧ d = .int .i64 0 ∧ wx = w1)
  case first =>
    by_cases h20 : n ≤ 20
    · obtain rfl : n = q := by omega
      have h1 : ¬ (20 : Int) < (n : Int) := by omega
      have h2 : (n : Int) ≤ 20 := by omega
      go_wp2_with fail
      all_goals (first | omega | (go_meet; exact ⟨rfl, rfl, rfl, rfl⟩))
    · obtain rfl : q = 20 := by omega
      have h1 : (20 : Int) < (n : Int) := by omega
      go_wp2_with fail
      all_goals (first | omega | (go_meet; exact ⟨rfl, rfl, rfl, rfl⟩))
  case rest =>
  rename World => wc
  obtain ⟨rfl, rfl, rfl, rfl⟩ := hcut
  go_wp2_with fail
  clear hmin
  go_loopw [7, 8, 9, 32] (LRel w q) (fun _ _ _ j _ => q - (intOf j).toNat)
  case atStart => exact ⟨0, none, 0, [], none, 0, [], none, 0, [], Nat.zero_le _, rfl, rfl, rfl, rfl, HL0.out, Gathered.nil, Nat.le_refl _, (fun r hr => (by cases hr))⟩
  case round =>
    obtain ⟨j, WA, wc, M, IA, ic, N, SA, sc, S, hj, rfl, rfl, rfl, rfl, hl3, hga, hmj, hm64⟩ := hrel
    have HL3 := Lib.hid hl3
    have HGA := Lib.hid hga
    have HM64 := Lib.hid hm64
    have hb := hl3.bel
    clear hl3 hga hm64 HL0
    by_cases hlt : j < q
    · have hlt' : (j : Int) < (q : Int) := by omega
      have i0 : (0 : Int) ≤ (j : Int) := by omega
      have hjF : j < L.length := by rw [HN.out]; omega
      obtain ⟨b, off, hAe, hcell⟩ := (HA.out.keep hb).at (by omega)
      have c1 := hcell j hjF
      have HX0 := Lib.hid (HA.out.2 _ (vw_mem hjF))
      obtain ⟨x, hx⟩ : ∃ x, vw_ L j = x := ⟨_, rfl⟩
      rw [hx] at c1 HX0
      have HX := Lib.hid (HX0.out.keep hb)
      subst hAe
      clear hcell hx hjF
      go_wp2_with fail
      refine (enc_any _ x.A x.n x.c x.F HX.out.1 HX.out.2.1 HX.out.2.2.1 HX.out.2.2.2.1 HX.out.2.2.2.2 _ rfl).mono ?_
      rintro e w2 ⟨B2, n2, c2, rfl, hown2, hb2⟩
      have HO2 := Lib.hid hown2
      have HL2 := Lib.hid (HL3.out.keep hb2)
      have hb02 : Below w.heap.size w w2 := hb.trans (hb2.mono hb.size)
      obtain ⟨ez, hez⟩ : ∃ z, (encV x.F).2 = z := ⟨_, rfl⟩
      rw [hez]
      have HEZ := Lib.hid hez
      clear hown2 hb2 hez HL3 c1
      by_cases hz : ez = 0
      case neg =>
        have q2 : (ez != 0) = true := by simp [hz]
        clear hz
        go_wp2_with fail
        go_roundw
        case rel => exact ⟨j + 1, WA, wc, M, IA, ic, N, SA, sc, S, by omega, by go_num, rfl, rfl, rfl, HL2.out, HGA.out, by omega, HM64.out⟩
        case measure => simp [intOf]; omega
      subst hz
      have q2 : ((0 : Int) != 0) = false := rfl
      have HEN := Lib.hid (encV_zero HEZ.out)
      have hx64 : x.n ≤ 64 := by have := HEN.out.1; have h2 := HX0.out.1; omega
      have HVO := Lib.hid (show ∀ v ∈ x.F, v.ok from fun v hv => (HX0.out.2.2.2.2 v hv).1)
      have HBI := Lib.hid (enc_isB HVO.out)
      have HDE := Lib.hid (dec_enc HEZ.out HVO.out)
      have hcap2 := HO2.out.cap
      go_wp2_with fail
      refine (dec_any _ B2 n2 c2 (encV x.F).1 HO2.out.len hcap2.1 hcap2.2 HO2.out.rd HBI.out _ rfl).mono ?_
      rintro e w3 ⟨D3, m3, d3, rfl, hown3, hb3⟩
      rw [HDE.out] at hown3 ⊢
      have HY := Lib.hid (show RwO w3 ⟨D3, m3, d3, x.F⟩ from ⟨⟨_, hown3⟩, HX0.out.2.2.2.2⟩)
      have HL3 := Lib.hid (HL2.out.keep hb3)
      have HO3 := Lib.hid (HO2.out.keep hb3)
      have HX3 := Lib.hid (HX0.out.keep (HL3.out.bel))
      have hb03 : Below w.heap.size w w3 := hb02.trans (hb3.mono hb02.size)
      clear hown3 hb3 HL2 HO2 HX
      go_wp2_with fail
      refine (size_any _ x.A x.n x.c x.F HX3.out.1 HX3.out.2.1 HX3.out.2.2.1 HX3.out.2.2.2.1 HX3.out.2.2.2.2).mono ?_
      rintro e w4 ⟨rfl, hb4⟩
      have HL4 := Lib.hid (HL3.out.keep hb4)
      have HY4 := Lib.hid (HY.out.keep hb4)
      have HO4 := Lib.hid (HO3.out.keep hb4)
      have HLN := Lib.hid HO3.out.len
      rw [HLN.out]
      have q3 : ((n2 : Int) != (n2 : Int)) = false := by simp
      have hn1 : x.n ≤ x.c ∧ x.c ≤ maxLen := ⟨HX3.out.2.1, HX3.out.2.2.1⟩
      obtain ⟨k, hk, hkn⟩ : ∃ k : Nat, u.tmod ((x.n : Int) + 1) = (k : Int) ∧ k ≤ x.n := by
        refine ⟨(u.tmod ((x.n : Int) + 1)).toNat, ?_, ?_⟩
        · have := Int.tmod_nonneg ((x.n : Int) + 1) hu.1
          omega
        · have := Int.tmod_lt_of_pos u (show (0 : Int) < (x.n : Int) + 1 by omega)
          omega
      have hne1 : ¬ (x.n : Int) + 1 = 0 := by omega
      have HFI := Lib.hid (first_enc HEZ.out HVO.out k (by rw [HX3.out.1]; exact hkn))
      have hwu : IntKind.i64.wrap u = u := IntWalk.i64_in _ (by omega)
      have HWR := Lib.hid (firstW_all HEN.out.2.1)
      have HXF := Lib.hid HX3.out.1
      clear hb4 HL3 HY HO3 HX3
      go_upto_region 14 with fail
      clear hk hne1 hwu
      go_wp2_with fail
      refine (first_any _ B2 n2 c2 (encV x.F).1 HLN.out hcap2.1 hcap2.2 HO4.out.rd HBI.out (k : Int) (by unfold i64K; omega) _ rfl).mono ?_
      rintro e w5 ⟨D5, m5, d5, rfl, hown5, hb5⟩
      rw [HFI.out] at hown5 ⊢
      have hm5 : m5 = k := by rw [← hown5.1, List.length_take, HXF.out]; omega
      subst hm5
      have HF5 := Lib.hid hown5.rd
      have HL5 := Lib.hid (HL4.out.keep hb5)
      have HY5 := Lib.hid (HY4.out.keep hb5)
      have HO5 := Lib.hid (HO4.out.keep hb5)
      clear hown5 hb5 HL4 HY4 HO4
      have q4 : ((m5 : Int) != (m5 : Int)) = false := by simp
      have hz5 := HL5.out.sz
      have HX5 := Lib.hid (HX0.out.keep HL5.out.bel)
      go_upto_region 17 with fail
      go_wp2_with fail
      go_loopw [79] (fun iv wr => ∃ i : Nat, i ≤ m5 ∧ iv = .int .i64 (i : Int) ∧ Below w5.heap.size w5 wr) (fun i _ => m5 - (intOf i).toNat)
      case atStart => exact ⟨0, Nat.zero_le _, rfl, Below.refl _ _⟩
      case round =>
        rename World => wk
        obtain ⟨i, hi, rfl, hbk⟩ := hrel
        by_cases hli : i < m5
        · have hli' : (i : Int) < (m5 : Int) := by omega
          have hlx' : (i : Int) < (x.n : Int) := by omega
          have i00 : (0 : Int) ≤ (i : Int) := by omega
          have hiF : i < x.F.length := by rw [HXF.out]; omega
          have hiT : i < (x.F.take m5).length := by rw [List.length_take]; omega
          obtain ⟨fb, fo, hfe, hfc⟩ := (HF5.out.keep hbk).at (by omega)
          obtain ⟨rb, ro, hre, hrc⟩ := (HX5.out.2.2.2.1.keep hbk).at (by omega)
          have HV1 := Lib.hid (hfc i hiT)
          have HV2 := Lib.hid (hrc i hiF)
          have hvt : vl_ (x.F.take m5) i = vl_ x.F i := by
            unfold vl_
            rw [List.getD_eq_getElem?_getD, List.getD_eq_getElem?_getD, List.getElem?_take, if_pos hli]
          have HVO2 := Lib.hid (HX0.out.2.2.2.2 _ (vl_mem hiF))
          have HVW := Lib.hid (HWR.out _ (vl_mem hiF))
          rw [hvt] at HV1
          obtain ⟨v, hv⟩ : ∃ v, vl_ x.F i = v := ⟨_, rfl⟩
          rw [hv] at HV1 HV2 HVO2 HVW
          subst hfe
          have hrl : rb < wk.heap.size := World.block_lt_of_cell? wk ⟨rb, ro + i * 3 + 0, none⟩ (HV2.out 0 _ rfl)
          have HRE := Lib.hid hre
          clear hfc hrc hvt hv hiF hiT hre
          go_upto_region 19 with fail
          iterate 7 go_step
          refine wp_load_vlm rfl _ rfl fb (fo + i * 3) v rfl HV1.out ?_
          iterate 6 go_step
          obtain ⟨W6, hW6⟩ : ∃ W, W = wk.alloc (.cells #[.int .i64 0, .int .i64 0, .string ⟨#[]⟩] 49) := ⟨_, rfl⟩
          have hb6 : Below wk.heap.size wk W6 := by rw [hW6]; exact (Below.refl _ _).alloc (Nat.le_refl _) _
          have HT6 := Lib.hid (show W6.there wk.heap.size 0 3 by rw [hW6]; exact there_new3K wk _ _ _ _)
          rw [← hW6]
          clear hW6
          refine wp_store_vl rfl _ _ rfl wk.heap.size v rfl rfl HT6.out ?_
          obtain ⟨w6, hw6⟩ : ∃ W, W = W6.setCells wk.heap.size 0 (vlC v) := ⟨_, rfl⟩
          have HB6 := Lib.hid (show w6.rangeAt wk.heap.size 0 (vlC v) by rw [hw6]; exact World.rangeAt_setCells_same _ _ _ _ HT6.out)
          have hbk6 : Below wk.heap.size wk w6 := by rw [hw6]; exact below_setCellsV hb6 (Nat.le_refl _) _ _
          rw [← hw6]
          obtain ⟨gv, hgv⟩ : ∃ x, wk.heap.size = x := ⟨_, rfl⟩
          have HV6 := Lib.hid (rangeAt_keep HV2.out hbk6)
          have hb56 : Below w5.heap.size w5 w6 := hbk.trans (hbk6.mono hbk.size)
          rw [hgv] at HB6 ⊢
          clear hw6 hb6 HT6 hgv hbk6 HV1 HV2
          go_upto_region 20 with fail
          rw [HRE.out]
          refine wp_region_held_drew (S := (fun W => Below w6.heap.size w6 W)) (by kernel_rfl) ?_ (fun hHeld => ?_)
          · exact (Below.refl _ w6).drew
          refine' wpAnyH_take (i := 0) (oi := _) (v := .agg #[.int .i64 v.k, .int .i64 v.n, .string (strOfNums v.s)]) rfl (by kernel_rfl) (by kernel_rfl) (by kernel_rfl) (fun _ _ _ h => h) (yieldsIf_load_mid (by rfl) 49 _ rfl gv 0 rfl (vlC v) _ (fun W hW => (rangeAt_keep HB6.out hW)) Try.underlying49 rfl size_vl) (by assumption) ?rezl1
          try simp only [Act.put, List.setIfInBounds_toArray, List.set_cons_zero, List.set_cons_succ, List.getElem_toArray, List.getElem_cons_zero, List.getElem_cons_succ]
          refine' wpAnyH_take (i := 1) (oi := _) (v := _) rfl (by kernel_rfl) (by kernel_rfl) (by kernel_rfl) (fun _ _ _ h => h) (Or.inl ⟨by rfl, ?hz1⟩) (by assumption) ?rezt1
          case hz1 => (intro w' hSw; (try dsimp only at hSw); go_simp; try with_reducible rfl)
          try simp only [Act.put, List.setIfInBounds_toArray, List.set_cons_zero, List.set_cons_succ, List.getElem_toArray, List.getElem_cons_zero, List.getElem_cons_succ]
          refine' wpAnyH_take (i := 2) (oi := _) (v := _) rfl (by kernel_rfl) (by kernel_rfl) (by kernel_rfl) (fun _ _ _ h => h) (Or.inl ⟨by rfl, ?hz2⟩) (by assumption) ?rezt2
          case hz2 => (intro w' hSw; (try dsimp only at hSw); go_simp; try with_reducible rfl)
          try simp only [Act.put, List.setIfInBounds_toArray, List.set_cons_zero, List.set_cons_succ, List.getElem_toArray, List.getElem_cons_zero, List.getElem_cons_succ]
          refine' wpAnyH_take (i := 3) (oi := _) (v := _) rfl (by kernel_rfl) (by kernel_rfl) (by kernel_rfl) (fun _ _ _ h => h) (Or.inl ⟨by rfl, ?hz3⟩) (by assumption) ?rezt3
          case hz3 => (intro w' hSw; (try dsimp only at hSw); go_simp; try with_reducible rfl)
          try simp only [Act.put, List.setIfInBounds_toArray, List.set_cons_zero, List.set_cons_succ, List.getElem_toArray, List.getElem_cons_zero, List.getElem_cons_succ]
          refine' wpAnyH_take (i := 4) (oi := _) (v := .agg #[.int .i64 v.k, .int .i64 v.n, .string (strOfNums v.s)]) rfl (by kernel_rfl) (by kernel_rfl) (by kernel_rfl) (fun _ _ _ h => h) (yieldsIf_load_mid (by rfl) 49 _ rfl rb (ro + i * 3) rfl (vlC v) _ (fun W hW => (rangeAt_keep HV6.out hW)) Try.underlying49 rfl size_vl) (by assumption) ?rezl2
          try simp only [Act.put, List.setIfInBounds_toArray, List.set_cons_zero, List.set_cons_succ, List.getElem_toArray, List.getElem_cons_zero, List.getElem_cons_succ]
          refine' wpAnyH_take (i := 5) (oi := _) (v := _) rfl (by kernel_rfl) (by kernel_rfl) (by kernel_rfl) (fun _ _ _ h => h) (Or.inl ⟨by rfl, ?hz4⟩) (by assumption) ?rezt4
          case hz4 => (intro w' hSw; (try dsimp only at hSw); go_simp; try with_reducible rfl)
          try simp only [Act.put, List.setIfInBounds_toArray, List.set_cons_zero, List.set_cons_succ, List.getElem_toArray, List.getElem_cons_zero, List.getElem_cons_succ]
          refine' wpAnyH_take (i := 6) (oi := _) (v := _) rfl (by kernel_rfl) (by kernel_rfl) (by kernel_rfl) (fun _ _ _ h => h) (Or.inl ⟨by rfl, ?hz5⟩) (by assumption) ?rezt5
          case hz5 => (intro w' hSw; (try dsimp only at hSw); go_simp; try with_reducible rfl)
          try simp only [Act.put, List.setIfInBounds_toArray, List.set_cons_zero, List.set_cons_succ, List.getElem_toArray, List.getElem_cons_zero, List.getElem_cons_succ]
          refine' wpAnyH_take (i := 7) (oi := _) (v := .agg #[.int .i64 v.k, .int .i64 v.n, .string (strOfNums v.s)]) rfl (by kernel_rfl) (by kernel_rfl) (by kernel_rfl) (fun _ _ _ h => h) (yieldsIf_load_mid (by rfl) 49 _ rfl gv 0 rfl (vlC v) _ (fun W hW => (rangeAt_keep HB6.out hW)) Try.underlying49 rfl size_vl) (by assumption) ?rezl3
          try simp only [Act.put, List.setIfInBounds_toArray, List.set_cons_zero, List.set_cons_succ, List.getElem_toArray, List.getElem_cons_zero, List.getElem_cons_succ]
          refine wpAnyH_ready (rs := [8]) (by kernel_rfl) (by simp) ?_
          refine AllReadyH.cons (o := _) rfl (fun K hK => ?_) AllReadyH.nil
          go_simp
          have hbd : Below w6.heap.size w6 w6.drew := (Below.refl _ w6).drew
          refine (vcheck_any _ v HVO2.out.1 HVO2.out.2).mono ?_
          rintro e w7 ⟨rfl, hb7⟩
          rw [HVW.out]
          have hb67 : Below w6.heap.size w6 w7 := hbd.trans (hb7.mono hbd.size)
          clear hb7 hbd
          refine hK.out _ _ ?_ (fun hHeld => ?_)
          · exact hb67
          clear hK K
          try simp only [Act.put, List.setIfInBounds_toArray, List.set_cons_zero, List.set_cons_succ, List.getElem_toArray, List.getElem_cons_zero, List.getElem_cons_succ]
          refine' wpAnyH_take (i := 9) (oi := _) (v := _) rfl (by kernel_rfl) (by kernel_rfl) (by kernel_rfl) (fun _ _ _ h => h) (Or.inl ⟨by rfl, ?hz6⟩) (by assumption) ?rezt6
          case hz6 => (intro w' hSw; (try dsimp only at hSw); go_simp; try with_reducible rfl)
          try simp only [Act.put, List.setIfInBounds_toArray, List.set_cons_zero, List.set_cons_succ, List.getElem_toArray, List.getElem_cons_zero, List.getElem_cons_succ]
          refine' wpAnyH_take (i := 10) (oi := _) (v := _) rfl (by kernel_rfl) (by kernel_rfl) (by kernel_rfl) (fun _ _ _ h => h) (Or.inl ⟨by rfl, ?hz7⟩) (by assumption) ?rezt7
          case hz7 => (intro w' hSw; (try dsimp only at hSw); go_simp; try with_reducible rfl)
          try simp only [Act.put, List.setIfInBounds_toArray, List.set_cons_zero, List.set_cons_succ, List.getElem_toArray, List.getElem_cons_zero, List.getElem_cons_succ]
          refine wpAnyH_done (by kernel_rfl) ?_ _
          have hb57 : Below w5.heap.size w5 w7 := hb56.trans (hb67.mono hb56.size)
          rw [← HRE.out]
          go_wp2_with fail
          go_roundw
          case rel => exact ⟨i + 1, by omega, by go_num, hb57⟩
          case measure => simp [intOf]; omega
        · obtain rfl : i = m5 := by omega
          have HLk := Lib.hid (HL5.out.keep hbk)
          have HYk := Lib.hid (HY5.out.keep hbk)
          have HOk := Lib.hid (HO5.out.keep hbk)
          obtain ⟨y, hy⟩ : ∃ y : Rw, (⟨D3, m3, d3, x.F⟩ : Rw) = y := ⟨_, rfl⟩
          have HYE := Lib.hid (show x.F = y.F by rw [← hy])
          have hyv : (.slice D3 m3 d3 : Value) = hdr y := by rw [← hy]; rfl
          rw [hy] at HYk
          obtain ⟨en, hen⟩ : ∃ l, (encV x.F).1 = l := ⟨_, rfl⟩
          rw [hen] at HOk
          have HEN2 := Lib.hid hen
          have hlN : N.length = M.length := by have := congrArg List.length HGA.out.1; rw [valsOf_len, valsOf_len] at this; exact this.symm
          have hlS : S.length = M.length := by rw [HGA.out.2.1, List.length_map]
          have hM20 : M.length ≤ 20 := by omega
          have hN20 : N.length ≤ 20 := by omega
          have hS20 : S.length ≤ 20 := by omega
          have HYV := Lib.hid hyv
          have hWA := fun a (ha : WA = some a) => (row_ty HLk.out.wrow.2 a.block (by subst ha; simp [blkO])).2.2
          have hIA := fun a (ha : IA = some a) => (row_ty HLk.out.irow.2 a.block (by subst ha; simp [blkO])).2.2
          have hSA := fun a (ha : SA = some a) => (row_ty HLk.out.srow.2 a.block (by subst ha; simp [blkO])).2.2
          clear hy hyv hen hlN hlS
          go_upto_region 23 with fail
          have HREL := Lib.hid (show ∀ (wx : World) WA' wc' IA' ic' SA' sc', L3 w wx WA' wc' (M ++ [x]) IA' ic' (N ++ [y]) SA' sc' (S ++ [en]) → LRel w q (.slice WA' (M.length + 1) wc') (.slice IA' (N.length + 1) ic') (.slice SA' (S.length + 1) sc') (.int .i64 ((j + 1 : Nat) : Int)) wx from by
            intro wx WA' wc' IA' ic' SA' sc' hl3
            refine ⟨j + 1, WA', wc', M ++ [x], IA', ic', N ++ [y], SA', sc', S ++ [en], by omega, rfl, by simp, by simp, by simp, hl3, ?_, by simp; omega, ?_⟩
            · rw [← HEN2.out]; exact HGA.out.add HYE.out HEZ.out
            · intro r hr
              rcases List.mem_append.1 hr with hr | hr
              · exact HM64.out r hr
              · have : r = x := by simpa using hr
                rw [this]; exact hx64)
          have hstr : ∀ W : World, (∃ bb, OwnB W bb B2 n2 c2 en) → (convert 25 9 (.slice B2 n2 c2)).run Try.prog W = .ok (.string (strOfNums en)) W := fun W ⟨bb, hW⟩ => run_str W B2 n2 c2 en hW.len hW.rd
          refine wp_region_held_drew (S := (fun W => ∃ bb, OwnB W bb B2 n2 c2 en)) (by kernel_rfl) ?_ (fun hHeld => ?_)
          · exact ⟨_, HOk.out.keep (Below.refl _ wk).drew⟩
          obtain ⟨wd, hwd⟩ : ∃ W, W = wk.drew := ⟨_, rfl⟩
          have HL_ := Lib.hid (show L3 w wd WA wc M IA ic N SA sc S by rw [hwd]; exact HLk.out.keep (Below.refl _ wk).drew)
          have HY_ := Lib.hid (show RwO wd y by rw [hwd]; exact HYk.out.keep (Below.refl _ wk).drew)
          obtain ⟨bb, hob⟩ := hHeld
          have HO_ := Lib.hid (show OwnB wd bb B2 n2 c2 en by rw [hwd]; exact hob)
          have hHeld : ∃ bb, OwnB wd bb B2 n2 c2 en := ⟨bb, HO_.out⟩
          have hsz_ : wk.heap.size ≤ wd.heap.size := by rw [hwd]; exact Nat.le_refl _
          rw [← hwd]
          clear hwd hob
          refine' wpAnyH_take (i := 0) (oi := _) (v := _) rfl (by kernel_rfl) (by kernel_rfl) (by kernel_rfl) (fun _ _ _ h => h) (Or.inl ⟨by rfl, ?hz8⟩) (by assumption) ?rezt8
          case hz8 => (intro w' hSw; (try dsimp only at hSw); go_simp; try with_reducible rfl)
          try simp only [Act.put, List.setIfInBounds_toArray, List.set_cons_zero, List.set_cons_succ, List.getElem_toArray, List.getElem_cons_zero, List.getElem_cons_succ]
          refine' wpAnyH_take (i := 1) (oi := _) (v := _) rfl (by kernel_rfl) (by kernel_rfl) (by kernel_rfl) (fun _ _ _ h => h) (Or.inl ⟨by rfl, ?hz9⟩) (by assumption) ?rezt9
          case hz9 => (intro w' hSw; (try dsimp only at hSw); go_simp; try with_reducible rfl)
          try simp only [Act.put, List.setIfInBounds_toArray, List.set_cons_zero, List.set_cons_succ, List.getElem_toArray, List.getElem_cons_zero, List.getElem_cons_succ]
          refine' wpAnyH_take (i := 4) (oi := _) (v := _) rfl (by kernel_rfl) (by kernel_rfl) (by kernel_rfl) (fun _ _ _ h => h) (Or.inl ⟨by rfl, ?hz10⟩) (by assumption) ?rezt10
          case hz10 => (intro w' hSw; (try dsimp only at hSw); go_simp; try with_reducible rfl)
          try simp only [Act.put, List.setIfInBounds_toArray, List.set_cons_zero, List.set_cons_succ, List.getElem_toArray, List.getElem_cons_zero, List.getElem_cons_succ]
          refine' wpAnyH_take (i := 5) (oi := _) (v := _) rfl (by kernel_rfl) (by kernel_rfl) (by kernel_rfl) (fun _ _ _ h => h) (Or.inl ⟨by rfl, ?hz11⟩) (by assumption) ?rezt11
          case hz11 => (intro w' hSw; (try dsimp only at hSw); go_simp; try with_reducible rfl)
          try simp only [Act.put, List.setIfInBounds_toArray, List.set_cons_zero, List.set_cons_succ, List.getElem_toArray, List.getElem_cons_zero, List.getElem_cons_succ]
          refine' wpAnyH_take (i := 8) (oi := _) (v := _) rfl (by kernel_rfl) (by kernel_rfl) (by kernel_rfl) (fun _ _ _ h => h) (Or.inl ⟨by rfl, ?hz12⟩) (by assumption) ?rezt12
          case hz12 => (intro w' hSw; (try dsimp only at hSw); go_simp; try with_reducible rfl)
          try simp only [Act.put, List.setIfInBounds_toArray, List.set_cons_zero, List.set_cons_succ, List.getElem_toArray, List.getElem_cons_zero, List.getElem_cons_succ]
          refine' wpAnyH_take (i := 9) (oi := _) (v := _) rfl (by kernel_rfl) (by kernel_rfl) (by kernel_rfl) (fun _ _ _ h => h) (Or.inl ⟨by rfl, ?hz13⟩) (by assumption) ?rezt13
          case hz13 => (intro w' hSw; (try dsimp only at hSw); go_simp; try with_reducible rfl)
          try simp only [Act.put, List.setIfInBounds_toArray, List.set_cons_zero, List.set_cons_succ, List.getElem_toArray, List.getElem_cons_zero, List.getElem_cons_succ]
          refine' wpAnyH_take (i := 10) (oi := _) (v := _) rfl (by kernel_rfl) (by kernel_rfl) (by kernel_rfl) (fun _ _ _ h => h) (Or.inl ⟨by rfl, ?hz14⟩) (by assumption) ?rezt14
          case hz14 => (intro w' hSw; (try dsimp only at hSw); go_simp; try with_reducible rfl)
          try simp only [Act.put, List.setIfInBounds_toArray, List.set_cons_zero, List.set_cons_succ, List.getElem_toArray, List.getElem_cons_zero, List.getElem_cons_succ]
          refine wpAnyH_ready (rs := [2, 6, 11]) (by kernel_rfl) (by simp) ?_
          refine AllReadyH.cons (o := _) rfl (fun K hK => ?_) (AllReadyH.cons (o := _) rfl (fun K hK => ?_) (AllReadyH.cons (o := _) rfl (fun K hK => ?_) AllReadyH.nil))
          · go_simp
            obtain ⟨w_2_, hw_2_⟩ : ∃ W, W = wd.alloc (.cells #[.slice x.A x.n x.c] 22) := ⟨_, rfl⟩
            have hb_2_ : Below wd.heap.size wd w_2_ := by rw [hw_2_]; exact (Below.refl _ _).alloc (Nat.le_refl _) _
            have HL_2_ := Lib.hid (HL_.out.keep hb_2_)
            have HY_2_ := Lib.hid (HY_.out.keep hb_2_)
            have HO_2_ := Lib.hid (HO_.out.keep hb_2_)
            have hsz_2_ : wk.heap.size ≤ w_2_.heap.size := Nat.le_trans hsz_ hb_2_.size
            have hl_2_ : wd.heap.size < w_2_.heap.size := by rw [hw_2_]; simp
            have HC_2_2 := Lib.hid (show w_2_.cell? ⟨wd.heap.size, 0, none⟩ = some (hdr x) by rw [hw_2_, heap_cell (heap_alloc_new _ _)]; exact rfl)
            rw [← hw_2_]
            clear hw_2_
            refine hK.out _ _ ?_ (fun hHeld => ?_)
            · exact ⟨_, HO_2_.out⟩
            clear hK K
            try simp only [Act.put, List.setIfInBounds_toArray, List.set_cons_zero, List.set_cons_succ, List.getElem_toArray, List.getElem_cons_zero, List.getElem_cons_succ]
            refine wpAnyH_ready (rs := [3, 6, 11]) (by kernel_rfl) (by simp) ?_
            refine AllReadyH.cons (o := _) rfl (fun K hK => ?_) (AllReadyH.cons (o := _) rfl (fun K hK => ?_) (AllReadyH.cons (o := _) rfl (fun K hK => ?_) AllReadyH.nil))
            · refine step_append_g 44 22 _ 24 Try.underlying44 info_vs rfl (by decide) rfl (.tmp 96) (.tmp 98) rfl w.heap.size WA M.length wc (hdrC M) rfl HL_2_.out.wrow _ 1 1 (hdrC [x]) rfl rfl (.inr ⟨wd.heap.size, 0, rfl, by simp, fun i u hu => by
                have hi : i = 0 := by have := (List.getElem?_eq_some_iff.1 hu).1; simp [hdrC, strC] at this; omega
                subst hi
                rw [← hu]
                simpa [hdrC, strC, hdr] using HC_2_2.out⟩) (hdrC_one _) (by omega) HL_2_.out.sz ?_
              intro A_2_3_ c_2_3_ w_2_3_ ho_2_3_ hb_2_3_ hk_2_3_
              have HL_2_3_ := Lib.hid (HL_2_.out.addW HX0.out ho_2_3_ hb_2_3_ hk_2_3_)
              have HY_2_3_ := Lib.hid (HY_2_.out.kept HL_2_.out.wrow.2 (by decide) hk_2_3_)
              have HO_2_3_ := Lib.hid (show OwnB w_2_3_ bb B2 n2 c2 en from rowKept HO_2_.out HL_2_.out.wrow.2 (by decide) hk_2_3_)
              have hsz_2_3_ : wk.heap.size ≤ w_2_3_.heap.size := Nat.le_trans hsz_2_ (HSZ hk_2_3_ hb_2_3_)
              refine hK.out _ _ ?_ (fun hHeld => ?_)
              · exact ⟨_, HO_2_3_.out⟩
              clear hK K
              try simp only [Act.put, List.setIfInBounds_toArray, List.set_cons_zero, List.set_cons_succ, List.getElem_toArray, List.getElem_cons_zero, List.getElem_cons_succ]
              refine wpAnyH_ready (rs := [6, 11]) (by kernel_rfl) (by simp) ?_
              refine AllReadyH.cons (o := _) rfl (fun K hK => ?_) (AllReadyH.cons (o := _) rfl (fun K hK => ?_) AllReadyH.nil)
              · go_simp
                obtain ⟨w_2_3_6_, hw_2_3_6_⟩ : ∃ W, W = w_2_3_.alloc (.cells #[.slice D3 m3 d3] 22) := ⟨_, rfl⟩
                have hb_2_3_6_ : Below w_2_3_.heap.size w_2_3_ w_2_3_6_ := by rw [hw_2_3_6_]; exact (Below.refl _ _).alloc (Nat.le_refl _) _
                have HL_2_3_6_ := Lib.hid (HL_2_3_.out.keep hb_2_3_6_)
                have HY_2_3_6_ := Lib.hid (HY_2_3_.out.keep hb_2_3_6_)
                have HO_2_3_6_ := Lib.hid (HO_2_3_.out.keep hb_2_3_6_)
                have hsz_2_3_6_ : wk.heap.size ≤ w_2_3_6_.heap.size := Nat.le_trans hsz_2_3_ hb_2_3_6_.size
                have hl_2_3_6_ : w_2_3_.heap.size < w_2_3_6_.heap.size := by rw [hw_2_3_6_]; simp
                have HC_2_3_6_6 := Lib.hid (show w_2_3_6_.cell? ⟨w_2_3_.heap.size, 0, none⟩ = some (hdr y) by rw [hw_2_3_6_, heap_cell (heap_alloc_new _ _)]; exact congrArg some HYV.out)
                rw [← hw_2_3_6_]
                clear hw_2_3_6_
                refine hK.out _ _ ?_ (fun hHeld => ?_)
                · exact ⟨_, HO_2_3_6_.out⟩
                clear hK K
                try simp only [Act.put, List.setIfInBounds_toArray, List.set_cons_zero, List.set_cons_succ, List.getElem_toArray, List.getElem_cons_zero, List.getElem_cons_succ]
                refine wpAnyH_ready (rs := [7, 11]) (by kernel_rfl) (by simp) ?_
                refine AllReadyH.cons (o := _) rfl (fun K hK => ?_) (AllReadyH.cons (o := _) rfl (fun K hK => ?_) AllReadyH.nil)
                · refine step_append_g 44 22 _ 24 Try.underlying44 info_vs rfl (by decide) rfl (.tmp 100) (.tmp 102) rfl w.heap.size IA N.length ic (hdrC N) rfl HL_2_3_6_.out.irow _ 1 1 (hdrC [y]) rfl rfl (.inr ⟨w_2_3_.heap.size, 0, rfl, by simp, fun i u hu => by
                    have hi : i = 0 := by have := (List.getElem?_eq_some_iff.1 hu).1; simp [hdrC, strC] at this; omega
                    subst hi
                    rw [← hu]
                    simpa [hdrC, strC, hdr] using HC_2_3_6_6.out⟩) (hdrC_one _) (by omega) HL_2_3_6_.out.sz ?_
                  intro A_2_3_6_7_ c_2_3_6_7_ w_2_3_6_7_ ho_2_3_6_7_ hb_2_3_6_7_ hk_2_3_6_7_
                  have HL_2_3_6_7_ := Lib.hid (HL_2_3_6_.out.addI HY_2_3_6_.out ho_2_3_6_7_ hb_2_3_6_7_ hk_2_3_6_7_)
                  have HY_2_3_6_7_ := Lib.hid (HY_2_3_6_.out.kept HL_2_3_6_.out.irow.2 (by decide) hk_2_3_6_7_)
                  have HO_2_3_6_7_ := Lib.hid (show OwnB w_2_3_6_7_ bb B2 n2 c2 en from rowKept HO_2_3_6_.out HL_2_3_6_.out.irow.2 (by decide) hk_2_3_6_7_)
                  have hsz_2_3_6_7_ : wk.heap.size ≤ w_2_3_6_7_.heap.size := Nat.le_trans hsz_2_3_6_ (HSZ hk_2_3_6_7_ hb_2_3_6_7_)
                  refine hK.out _ _ ?_ (fun hHeld => ?_)
                  · exact ⟨_, HO_2_3_6_7_.out⟩
                  clear hK K
                  try simp only [Act.put, List.setIfInBounds_toArray, List.set_cons_zero, List.set_cons_succ, List.getElem_toArray, List.getElem_cons_zero, List.getElem_cons_succ]
                  refine wpAnyH_ready (rs := [11]) (by kernel_rfl) (by simp) ?_
                  refine AllReadyH.cons (o := _) rfl (fun K hK => ?_) AllReadyH.nil
                  go_simp
                  obtain ⟨w_2_3_6_7_11_, hw_2_3_6_7_11_⟩ : ∃ W, W = w_2_3_6_7_.alloc (.cells #[.string (strOfNums en)] 9) := ⟨_, rfl⟩
                  have hb_2_3_6_7_11_ : Below w_2_3_6_7_.heap.size w_2_3_6_7_ w_2_3_6_7_11_ := by rw [hw_2_3_6_7_11_]; exact (Below.refl _ _).alloc (Nat.le_refl _) _
                  have HL_2_3_6_7_11_ := Lib.hid (HL_2_3_6_7_.out.keep hb_2_3_6_7_11_)
                  have HY_2_3_6_7_11_ := Lib.hid (HY_2_3_6_7_.out.keep hb_2_3_6_7_11_)
                  have HO_2_3_6_7_11_ := Lib.hid (HO_2_3_6_7_.out.keep hb_2_3_6_7_11_)
                  have hsz_2_3_6_7_11_ : wk.heap.size ≤ w_2_3_6_7_11_.heap.size := Nat.le_trans hsz_2_3_6_7_ hb_2_3_6_7_11_.size
                  have hl_2_3_6_7_11_ : w_2_3_6_7_.heap.size < w_2_3_6_7_11_.heap.size := by rw [hw_2_3_6_7_11_]; simp
                  have HC_2_3_6_7_11_11 := Lib.hid (show w_2_3_6_7_11_.cell? ⟨w_2_3_6_7_.heap.size, 0, none⟩ = some (.string (strOfNums en)) by rw [hw_2_3_6_7_11_, heap_cell (heap_alloc_new _ _)]; exact rfl)
                  rw [← hw_2_3_6_7_11_]
                  clear hw_2_3_6_7_11_
                  refine hK.out _ _ ?_ (fun hHeld => ?_)
                  · exact ⟨_, HO_2_3_6_7_11_.out⟩
                  clear hK K
                  try simp only [Act.put, List.setIfInBounds_toArray, List.set_cons_zero, List.set_cons_succ, List.getElem_toArray, List.getElem_cons_zero, List.getElem_cons_succ]
                  refine wpAnyH_ready (rs := [12]) (by kernel_rfl) (by simp) ?_
                  refine AllReadyH.cons (o := _) rfl (fun K hK => ?_) AllReadyH.nil
                  refine step_append_g 47 9 _ 16 Try.underlying47 info_str rfl (by decide) rfl (.tmp 104) (.tmp 107) rfl w.heap.size SA S.length sc (strC S) rfl HL_2_3_6_7_11_.out.srow _ 1 1 (strC [en]) rfl rfl (.inr ⟨w_2_3_6_7_.heap.size, 0, rfl, by simp, fun i u hu => by
                    have hi : i = 0 := by have := (List.getElem?_eq_some_iff.1 hu).1; simp [hdrC, strC] at this; omega
                    subst hi
                    rw [← hu]
                    simpa [hdrC, strC, hdr] using HC_2_3_6_7_11_11.out⟩) (strC_one _) (by omega) HL_2_3_6_7_11_.out.sz ?_
                  intro A_2_3_6_7_11_12_ c_2_3_6_7_11_12_ w_2_3_6_7_11_12_ ho_2_3_6_7_11_12_ hb_2_3_6_7_11_12_ hk_2_3_6_7_11_12_
                  have HL_2_3_6_7_11_12_ := Lib.hid (HL_2_3_6_7_11_.out.addS ho_2_3_6_7_11_12_ hb_2_3_6_7_11_12_ hk_2_3_6_7_11_12_)
                  have HY_2_3_6_7_11_12_ := Lib.hid (HY_2_3_6_7_11_.out.kept HL_2_3_6_7_11_.out.srow.2 (by decide) hk_2_3_6_7_11_12_)
                  have HO_2_3_6_7_11_12_ := Lib.hid (show OwnB w_2_3_6_7_11_12_ bb B2 n2 c2 en from rowKept HO_2_3_6_7_11_.out HL_2_3_6_7_11_.out.srow.2 (by decide) hk_2_3_6_7_11_12_)
                  have hsz_2_3_6_7_11_12_ : wk.heap.size ≤ w_2_3_6_7_11_12_.heap.size := Nat.le_trans hsz_2_3_6_7_11_ (HSZ hk_2_3_6_7_11_12_ hb_2_3_6_7_11_12_)
                  refine hK.out _ _ ?_ (fun hHeld => ?_)
                  · exact ⟨_, HO_2_3_6_7_11_12_.out⟩
                  clear hK K
                  try simp only [Act.put, List.setIfInBounds_toArray, List.set_cons_zero, List.set_cons_succ, List.getElem_toArray, List.getElem_cons_zero, List.getElem_cons_succ]
                  refine' wpAnyH_take (i := 13) (oi := _) (v := _) rfl (by kernel_rfl) (by kernel_rfl) (by kernel_rfl) (fun _ _ _ h => h) (Or.inl ⟨by rfl, ?hz15⟩) (by assumption) ?rezt15
                  case hz15 => (intro w' hSw; (try dsimp only at hSw); go_simp; try with_reducible rfl)
                  try simp only [Act.put, List.setIfInBounds_toArray, List.set_cons_zero, List.set_cons_succ, List.getElem_toArray, List.getElem_cons_zero, List.getElem_cons_succ]
                  refine' wpAnyH_take (i := 14) (oi := _) (v := _) rfl (by kernel_rfl) (by kernel_rfl) (by kernel_rfl) (fun _ _ _ h => h) (Or.inl ⟨by rfl, ?hz16⟩) (by assumption) ?rezt16
                  case hz16 => (intro w' hSw; (try dsimp only at hSw); go_simp; try with_reducible rfl)
                  try simp only [Act.put, List.setIfInBounds_toArray, List.set_cons_zero, List.set_cons_succ, List.getElem_toArray, List.getElem_cons_zero, List.getElem_cons_succ]
                  refine' wpAnyH_take (i := 15) (oi := _) (v := _) rfl (by kernel_rfl) (by kernel_rfl) (by kernel_rfl) (fun _ _ _ h => h) (Or.inl ⟨by rfl, ?hz17⟩) (by assumption) ?rezt17
                  case hz17 => (intro w' hSw; (try dsimp only at hSw); go_simp; try with_reducible rfl)
                  try simp only [Act.put, List.setIfInBounds_toArray, List.set_cons_zero, List.set_cons_succ, List.getElem_toArray, List.getElem_cons_zero, List.getElem_cons_succ]
                  refine wpAnyH_done (by kernel_rfl) ?_ _
                  have HR := Lib.hid (HREL.out _ _ _ _ _ _ _ HL_2_3_6_7_11_12_.out)
                  go_wp2_with fail
                  go_roundw
                  case rel => exact HR.out
                  case measure => simp [intOf]; omega
                · go_simp
                  obtain ⟨w_2_3_6_11_, hw_2_3_6_11_⟩ : ∃ W, W = w_2_3_6_.alloc (.cells #[.string (strOfNums en)] 9) := ⟨_, rfl⟩
                  have hb_2_3_6_11_ : Below w_2_3_6_.heap.size w_2_3_6_ w_2_3_6_11_ := by rw [hw_2_3_6_11_]; exact (Below.refl _ _).alloc (Nat.le_refl _) _
                  have HL_2_3_6_11_ := Lib.hid (HL_2_3_6_.out.keep hb_2_3_6_11_)
                  have HY_2_3_6_11_ := Lib.hid (HY_2_3_6_.out.keep hb_2_3_6_11_)
                  have HO_2_3_6_11_ := Lib.hid (HO_2_3_6_.out.keep hb_2_3_6_11_)
                  have hsz_2_3_6_11_ : wk.heap.size ≤ w_2_3_6_11_.heap.size := Nat.le_trans hsz_2_3_6_ hb_2_3_6_11_.size
                  have hl_2_3_6_11_ : w_2_3_6_.heap.size < w_2_3_6_11_.heap.size := by rw [hw_2_3_6_11_]; simp
                  have HC_2_3_6_11_11 := Lib.hid (show w_2_3_6_11_.cell? ⟨w_2_3_6_.heap.size, 0, none⟩ = some (.string (strOfNums en)) by rw [hw_2_3_6_11_, heap_cell (heap_alloc_new _ _)]; exact rfl)
                  have HC_2_3_6_11_6 := Lib.hid ((hb_2_3_6_11_.cell (p := ⟨w_2_3_.heap.size, 0, none⟩) hl_2_3_6_).trans HC_2_3_6_6.out)
                  have hg_2_3_6_11_6 : w_2_3_.heap.size < w_2_3_6_11_.heap.size := Nat.lt_of_lt_of_le hl_2_3_6_ hb_2_3_6_11_.size
                  rw [← hw_2_3_6_11_]
                  clear hw_2_3_6_11_
                  refine hK.out _ _ ?_ (fun hHeld => ?_)
                  · exact ⟨_, HO_2_3_6_11_.out⟩
                  clear hK K
                  try simp only [Act.put, List.setIfInBounds_toArray, List.set_cons_zero, List.set_cons_succ, List.getElem_toArray, List.getElem_cons_zero, List.getElem_cons_succ]
                  refine wpAnyH_ready (rs := [7]) (by kernel_rfl) (by simp) ?_
                  refine AllReadyH.cons (o := _) rfl (fun K hK => ?_) AllReadyH.nil
                  refine step_append_g 44 22 _ 24 Try.underlying44 info_vs rfl (by decide) rfl (.tmp 100) (.tmp 102) rfl w.heap.size IA N.length ic (hdrC N) rfl HL_2_3_6_11_.out.irow _ 1 1 (hdrC [y]) rfl rfl (.inr ⟨w_2_3_.heap.size, 0, rfl, by simp, fun i u hu => by
                    have hi : i = 0 := by have := (List.getElem?_eq_some_iff.1 hu).1; simp [hdrC, strC] at this; omega
                    subst hi
                    rw [← hu]
                    simpa [hdrC, strC, hdr] using HC_2_3_6_11_6.out⟩) (hdrC_one _) (by omega) HL_2_3_6_11_.out.sz ?_
                  intro A_2_3_6_11_7_ c_2_3_6_11_7_ w_2_3_6_11_7_ ho_2_3_6_11_7_ hb_2_3_6_11_7_ hk_2_3_6_11_7_
                  have HL_2_3_6_11_7_ := Lib.hid (HL_2_3_6_11_.out.addI HY_2_3_6_11_.out ho_2_3_6_11_7_ hb_2_3_6_11_7_ hk_2_3_6_11_7_)
                  have HY_2_3_6_11_7_ := Lib.hid (HY_2_3_6_11_.out.kept HL_2_3_6_11_.out.irow.2 (by decide) hk_2_3_6_11_7_)
                  have HO_2_3_6_11_7_ := Lib.hid (show OwnB w_2_3_6_11_7_ bb B2 n2 c2 en from rowKept HO_2_3_6_11_.out HL_2_3_6_11_.out.irow.2 (by decide) hk_2_3_6_11_7_)
                  have hsz_2_3_6_11_7_ : wk.heap.size ≤ w_2_3_6_11_7_.heap.size := Nat.le_trans hsz_2_3_6_11_ (HSZ hk_2_3_6_11_7_ hb_2_3_6_11_7_)
                  have HC_2_3_6_11_7_11 := Lib.hid (cellKept hk_2_3_6_11_7_ hl_2_3_6_11_ (fun a ha e => by have := hIA a ha; omega) HC_2_3_6_11_11.out)
                  have hg_2_3_6_11_7_11 : w_2_3_6_.heap.size < w_2_3_6_11_7_.heap.size := Nat.lt_of_lt_of_le hl_2_3_6_11_ (HSZ hk_2_3_6_11_7_ hb_2_3_6_11_7_)
                  refine hK.out _ _ ?_ (fun hHeld => ?_)
                  · exact ⟨_, HO_2_3_6_11_7_.out⟩
                  clear hK K
                  try simp only [Act.put, List.setIfInBounds_toArray, List.set_cons_zero, List.set_cons_succ, List.getElem_toArray, List.getElem_cons_zero, List.getElem_cons_succ]
                  refine wpAnyH_ready (rs := [12]) (by kernel_rfl) (by simp) ?_
                  refine AllReadyH.cons (o := _) rfl (fun K hK => ?_) AllReadyH.nil
                  refine step_append_g 47 9 _ 16 Try.underlying47 info_str rfl (by decide) rfl (.tmp 104) (.tmp 107) rfl w.heap.size SA S.length sc (strC S) rfl HL_2_3_6_11_7_.out.srow _ 1 1 (strC [en]) rfl rfl (.inr ⟨w_2_3_6_.heap.size, 0, rfl, by simp, fun i u hu => by
                    have hi : i = 0 := by have := (List.getElem?_eq_some_iff.1 hu).1; simp [hdrC, strC] at this; omega
                    subst hi
                    rw [← hu]
                    simpa [hdrC, strC, hdr] using HC_2_3_6_11_7_11.out⟩) (strC_one _) (by omega) HL_2_3_6_11_7_.out.sz ?_
                  intro A_2_3_6_11_7_12_ c_2_3_6_11_7_12_ w_2_3_6_11_7_12_ ho_2_3_6_11_7_12_ hb_2_3_6_11_7_12_ hk_2_3_6_11_7_12_
                  have HL_2_3_6_11_7_12_ := Lib.hid (HL_2_3_6_11_7_.out.addS ho_2_3_6_11_7_12_ hb_2_3_6_11_7_12_ hk_2_3_6_11_7_12_)
                  have HY_2_3_6_11_7_12_ := Lib.hid (HY_2_3_6_11_7_.out.kept HL_2_3_6_11_7_.out.srow.2 (by decide) hk_2_3_6_11_7_12_)
                  have HO_2_3_6_11_7_12_ := Lib.hid (show OwnB w_2_3_6_11_7_12_ bb B2 n2 c2 en from rowKept HO_2_3_6_11_7_.out HL_2_3_6_11_7_.out.srow.2 (by decide) hk_2_3_6_11_7_12_)
                  have hsz_2_3_6_11_7_12_ : wk.heap.size ≤ w_2_3_6_11_7_12_.heap.size := Nat.le_trans hsz_2_3_6_11_7_ (HSZ hk_2_3_6_11_7_12_ hb_2_3_6_11_7_12_)
                  refine hK.out _ _ ?_ (fun hHeld => ?_)
                  · exact ⟨_, HO_2_3_6_11_7_12_.out⟩
                  clear hK K
                  try simp only [Act.put, List.setIfInBounds_toArray, List.set_cons_zero, List.set_cons_succ, List.getElem_toArray, List.getElem_cons_zero, List.getElem_cons_succ]
                  refine' wpAnyH_take (i := 13) (oi := _) (v := _) rfl (by kernel_rfl) (by kernel_rfl) (by kernel_rfl) (fun _ _ _ h => h) (Or.inl ⟨by rfl, ?hz18⟩) (by assumption) ?rezt18
                  case hz18 => (intro w' hSw; (try dsimp only at hSw); go_simp; try with_reducible rfl)
                  try simp only [Act.put, List.setIfInBounds_toArray, List.set_cons_zero, List.set_cons_succ, List.getElem_toArray, List.getElem_cons_zero, List.getElem_cons_succ]
                  refine' wpAnyH_take (i := 14) (oi := _) (v := _) rfl (by kernel_rfl) (by kernel_rfl) (by kernel_rfl) (fun _ _ _ h => h) (Or.inl ⟨by rfl, ?hz19⟩) (by assumption) ?rezt19
                  case hz19 => (intro w' hSw; (try dsimp only at hSw); go_simp; try with_reducible rfl)
                  try simp only [Act.put, List.setIfInBounds_toArray, List.set_cons_zero, List.set_cons_succ, List.getElem_toArray, List.getElem_cons_zero, List.getElem_cons_succ]
                  refine' wpAnyH_take (i := 15) (oi := _) (v := _) rfl (by kernel_rfl) (by kernel_rfl) (by kernel_rfl) (fun _ _ _ h => h) (Or.inl ⟨by rfl, ?hz20⟩) (by assumption) ?rezt20
                  case hz20 => (intro w' hSw; (try dsimp only at hSw); go_simp; try with_reducible rfl)
                  try simp only [Act.put, List.setIfInBounds_toArray, List.set_cons_zero, List.set_cons_succ, List.getElem_toArray, List.getElem_cons_zero, List.getElem_cons_succ]
                  refine wpAnyH_done (by kernel_rfl) ?_ _
                  have HR := Lib.hid (HREL.out _ _ _ _ _ _ _ HL_2_3_6_11_7_12_.out)
                  go_wp2_with fail
                  go_roundw
                  case rel => exact HR.out
                  case measure => simp [intOf]; omega
              · go_simp
                obtain ⟨w_2_3_11_, hw_2_3_11_⟩ : ∃ W, W = w_2_3_.alloc (.cells #[.string (strOfNums en)] 9) := ⟨_, rfl⟩
                have hb_2_3_11_ : Below w_2_3_.heap.size w_2_3_ w_2_3_11_ := by rw [hw_2_3_11_]; exact (Below.refl _ _).alloc (Nat.le_refl _) _
                have HL_2_3_11_ := Lib.hid (HL_2_3_.out.keep hb_2_3_11_)
                have HY_2_3_11_ := Lib.hid (HY_2_3_.out.keep hb_2_3_11_)
                have HO_2_3_11_ := Lib.hid (HO_2_3_.out.keep hb_2_3_11_)
                have hsz_2_3_11_ : wk.heap.size ≤ w_2_3_11_.heap.size := Nat.le_trans hsz_2_3_ hb_2_3_11_.size
                have hl_2_3_11_ : w_2_3_.heap.size < w_2_3_11_.heap.size := by rw [hw_2_3_11_]; simp
                have HC_2_3_11_11 := Lib.hid (show w_2_3_11_.cell? ⟨w_2_3_.heap.size, 0, none⟩ = some (.string (strOfNums en)) by rw [hw_2_3_11_, heap_cell (heap_alloc_new _ _)]; exact rfl)
                rw [← hw_2_3_11_]
                clear hw_2_3_11_
                refine hK.out _ _ ?_ (fun hHeld => ?_)
                · exact ⟨_, HO_2_3_11_.out⟩
                clear hK K
                try simp only [Act.put, List.setIfInBounds_toArray, List.set_cons_zero, List.set_cons_succ, List.getElem_toArray, List.getElem_cons_zero, List.getElem_cons_succ]
                refine wpAnyH_ready (rs := [6]) (by kernel_rfl) (by simp) ?_
                refine AllReadyH.cons (o := _) rfl (fun K hK => ?_) AllReadyH.nil
                go_simp
                obtain ⟨w_2_3_11_6_, hw_2_3_11_6_⟩ : ∃ W, W = w_2_3_11_.alloc (.cells #[.slice D3 m3 d3] 22) := ⟨_, rfl⟩
                have hb_2_3_11_6_ : Below w_2_3_11_.heap.size w_2_3_11_ w_2_3_11_6_ := by rw [hw_2_3_11_6_]; exact (Below.refl _ _).alloc (Nat.le_refl _) _
                have HL_2_3_11_6_ := Lib.hid (HL_2_3_11_.out.keep hb_2_3_11_6_)
                have HY_2_3_11_6_ := Lib.hid (HY_2_3_11_.out.keep hb_2_3_11_6_)
                have HO_2_3_11_6_ := Lib.hid (HO_2_3_11_.out.keep hb_2_3_11_6_)
                have hsz_2_3_11_6_ : wk.heap.size ≤ w_2_3_11_6_.heap.size := Nat.le_trans hsz_2_3_11_ hb_2_3_11_6_.size
                have hl_2_3_11_6_ : w_2_3_11_.heap.size < w_2_3_11_6_.heap.size := by rw [hw_2_3_11_6_]; simp
                have HC_2_3_11_6_6 := Lib.hid (show w_2_3_11_6_.cell? ⟨w_2_3_11_.heap.size, 0, none⟩ = some (hdr y) by rw [hw_2_3_11_6_, heap_cell (heap_alloc_new _ _)]; exact congrArg some HYV.out)
                have HC_2_3_11_6_11 := Lib.hid ((hb_2_3_11_6_.cell (p := ⟨w_2_3_.heap.size, 0, none⟩) hl_2_3_11_).trans HC_2_3_11_11.out)
                have hg_2_3_11_6_11 : w_2_3_.heap.size < w_2_3_11_6_.heap.size := Nat.lt_of_lt_of_le hl_2_3_11_ hb_2_3_11_6_.size
                rw [← hw_2_3_11_6_]
                clear hw_2_3_11_6_
                refine hK.out _ _ ?_ (fun hHeld => ?_)
                · exact ⟨_, HO_2_3_11_6_.out⟩
                clear hK K
                try simp only [Act.put, List.setIfInBounds_toArray, List.set_cons_zero, List.set_cons_succ, List.getElem_toArray, List.getElem_cons_zero, List.getElem_cons_succ]
                refine wpAnyH_ready (rs := [7]) (by kernel_rfl) (by simp) ?_
                refine AllReadyH.cons (o := _) rfl (fun K hK => ?_) AllReadyH.nil
                refine step_append_g 44 22 _ 24 Try.underlying44 info_vs rfl (by decide) rfl (.tmp 100) (.tmp 102) rfl w.heap.size IA N.length ic (hdrC N) rfl HL_2_3_11_6_.out.irow _ 1 1 (hdrC [y]) rfl rfl (.inr ⟨w_2_3_11_.heap.size, 0, rfl, by simp, fun i u hu => by
                  have hi : i = 0 := by have := (List.getElem?_eq_some_iff.1 hu).1; simp [hdrC, strC] at this; omega
                  subst hi
                  rw [← hu]
                  simpa [hdrC, strC, hdr] using HC_2_3_11_6_6.out⟩) (hdrC_one _) (by omega) HL_2_3_11_6_.out.sz ?_
                intro A_2_3_11_6_7_ c_2_3_11_6_7_ w_2_3_11_6_7_ ho_2_3_11_6_7_ hb_2_3_11_6_7_ hk_2_3_11_6_7_
                have HL_2_3_11_6_7_ := Lib.hid (HL_2_3_11_6_.out.addI HY_2_3_11_6_.out ho_2_3_11_6_7_ hb_2_3_11_6_7_ hk_2_3_11_6_7_)
                have HY_2_3_11_6_7_ := Lib.hid (HY_2_3_11_6_.out.kept HL_2_3_11_6_.out.irow.2 (by decide) hk_2_3_11_6_7_)
                have HO_2_3_11_6_7_ := Lib.hid (show OwnB w_2_3_11_6_7_ bb B2 n2 c2 en from rowKept HO_2_3_11_6_.out HL_2_3_11_6_.out.irow.2 (by decide) hk_2_3_11_6_7_)
                have hsz_2_3_11_6_7_ : wk.heap.size ≤ w_2_3_11_6_7_.heap.size := Nat.le_trans hsz_2_3_11_6_ (HSZ hk_2_3_11_6_7_ hb_2_3_11_6_7_)
                have HC_2_3_11_6_7_11 := Lib.hid (cellKept hk_2_3_11_6_7_ hg_2_3_11_6_11 (fun a ha e => by have := hIA a ha; omega) HC_2_3_11_6_11.out)
                have hg_2_3_11_6_7_11 : w_2_3_.heap.size < w_2_3_11_6_7_.heap.size := Nat.lt_of_lt_of_le hg_2_3_11_6_11 (HSZ hk_2_3_11_6_7_ hb_2_3_11_6_7_)
                refine hK.out _ _ ?_ (fun hHeld => ?_)
                · exact ⟨_, HO_2_3_11_6_7_.out⟩
                clear hK K
                try simp only [Act.put, List.setIfInBounds_toArray, List.set_cons_zero, List.set_cons_succ, List.getElem_toArray, List.getElem_cons_zero, List.getElem_cons_succ]
                refine wpAnyH_ready (rs := [12]) (by kernel_rfl) (by simp) ?_
                refine AllReadyH.cons (o := _) rfl (fun K hK => ?_) AllReadyH.nil
                refine step_append_g 47 9 _ 16 Try.underlying47 info_str rfl (by decide) rfl (.tmp 104) (.tmp 107) rfl w.heap.size SA S.length sc (strC S) rfl HL_2_3_11_6_7_.out.srow _ 1 1 (strC [en]) rfl rfl (.inr ⟨w_2_3_.heap.size, 0, rfl, by simp, fun i u hu => by
                  have hi : i = 0 := by have := (List.getElem?_eq_some_iff.1 hu).1; simp [hdrC, strC] at this; omega
                  subst hi
                  rw [← hu]
                  simpa [hdrC, strC, hdr] using HC_2_3_11_6_7_11.out⟩) (strC_one _) (by omega) HL_2_3_11_6_7_.out.sz ?_
                intro A_2_3_11_6_7_12_ c_2_3_11_6_7_12_ w_2_3_11_6_7_12_ ho_2_3_11_6_7_12_ hb_2_3_11_6_7_12_ hk_2_3_11_6_7_12_
                have HL_2_3_11_6_7_12_ := Lib.hid (HL_2_3_11_6_7_.out.addS ho_2_3_11_6_7_12_ hb_2_3_11_6_7_12_ hk_2_3_11_6_7_12_)
                have HY_2_3_11_6_7_12_ := Lib.hid (HY_2_3_11_6_7_.out.kept HL_2_3_11_6_7_.out.srow.2 (by decide) hk_2_3_11_6_7_12_)
                have HO_2_3_11_6_7_12_ := Lib.hid (show OwnB w_2_3_11_6_7_12_ bb B2 n2 c2 en from rowKept HO_2_3_11_6_7_.out HL_2_3_11_6_7_.out.srow.2 (by decide) hk_2_3_11_6_7_12_)
                have hsz_2_3_11_6_7_12_ : wk.heap.size ≤ w_2_3_11_6_7_12_.heap.size := Nat.le_trans hsz_2_3_11_6_7_ (HSZ hk_2_3_11_6_7_12_ hb_2_3_11_6_7_12_)
                refine hK.out _ _ ?_ (fun hHeld => ?_)
                · exact ⟨_, HO_2_3_11_6_7_12_.out⟩
                clear hK K
                try simp only [Act.put, List.setIfInBounds_toArray, List.set_cons_zero, List.set_cons_succ, List.getElem_toArray, List.getElem_cons_zero, List.getElem_cons_succ]
                refine' wpAnyH_take (i := 13) (oi := _) (v := _) rfl (by kernel_rfl) (by kernel_rfl) (by kernel_rfl) (fun _ _ _ h => h) (Or.inl ⟨by rfl, ?hz21⟩) (by assumption) ?rezt21
                case hz21 => (intro w' hSw; (try dsimp only at hSw); go_simp; try with_reducible rfl)
                try simp only [Act.put, List.setIfInBounds_toArray, List.set_cons_zero, List.set_cons_succ, List.getElem_toArray, List.getElem_cons_zero, List.getElem_cons_succ]
                refine' wpAnyH_take (i := 14) (oi := _) (v := _) rfl (by kernel_rfl) (by kernel_rfl) (by kernel_rfl) (fun _ _ _ h => h) (Or.inl ⟨by rfl, ?hz22⟩) (by assumption) ?rezt22
                case hz22 => (intro w' hSw; (try dsimp only at hSw); go_simp; try with_reducible rfl)
                try simp only [Act.put, List.setIfInBounds_toArray, List.set_cons_zero, List.set_cons_succ, List.getElem_toArray, List.getElem_cons_zero, List.getElem_cons_succ]
                refine' wpAnyH_take (i := 15) (oi := _) (v := _) rfl (by kernel_rfl) (by kernel_rfl) (by kernel_rfl) (fun _ _ _ h => h) (Or.inl ⟨by rfl, ?hz23⟩) (by assumption) ?rezt23
                case hz23 => (intro w' hSw; (try dsimp only at hSw); go_simp; try with_reducible rfl)
                try simp only [Act.put, List.setIfInBounds_toArray, List.set_cons_zero, List.set_cons_succ, List.getElem_toArray, List.getElem_cons_zero, List.getElem_cons_succ]
                refine wpAnyH_done (by kernel_rfl) ?_ _
                have HR := Lib.hid (HREL.out _ _ _ _ _ _ _ HL_2_3_11_6_7_12_.out)
                go_wp2_with fail
                go_roundw
                case rel => exact HR.out
                case measure => simp [intOf]; omega
            · go_simp
              obtain ⟨w_2_6_, hw_2_6_⟩ : ∃ W, W = w_2_.alloc (.cells #[.slice D3 m3 d3] 22) := ⟨_, rfl⟩
              have hb_2_6_ : Below w_2_.heap.size w_2_ w_2_6_ := by rw [hw_2_6_]; exact (Below.refl _ _).alloc (Nat.le_refl _) _
              have HL_2_6_ := Lib.hid (HL_2_.out.keep hb_2_6_)
              have HY_2_6_ := Lib.hid (HY_2_.out.keep hb_2_6_)
              have HO_2_6_ := Lib.hid (HO_2_.out.keep hb_2_6_)
              have hsz_2_6_ : wk.heap.size ≤ w_2_6_.heap.size := Nat.le_trans hsz_2_ hb_2_6_.size
              have hl_2_6_ : w_2_.heap.size < w_2_6_.heap.size := by rw [hw_2_6_]; simp
              have HC_2_6_6 := Lib.hid (show w_2_6_.cell? ⟨w_2_.heap.size, 0, none⟩ = some (hdr y) by rw [hw_2_6_, heap_cell (heap_alloc_new _ _)]; exact congrArg some HYV.out)
              have HC_2_6_2 := Lib.hid ((hb_2_6_.cell (p := ⟨wd.heap.size, 0, none⟩) hl_2_).trans HC_2_2.out)
              have hg_2_6_2 : wd.heap.size < w_2_6_.heap.size := Nat.lt_of_lt_of_le hl_2_ hb_2_6_.size
              rw [← hw_2_6_]
              clear hw_2_6_
              refine hK.out _ _ ?_ (fun hHeld => ?_)
              · exact ⟨_, HO_2_6_.out⟩
              clear hK K
              try simp only [Act.put, List.setIfInBounds_toArray, List.set_cons_zero, List.set_cons_succ, List.getElem_toArray, List.getElem_cons_zero, List.getElem_cons_succ]
              refine wpAnyH_ready (rs := [3, 11]) (by kernel_rfl) (by simp) ?_
              refine AllReadyH.cons (o := _) rfl (fun K hK => ?_) (AllReadyH.cons (o := _) rfl (fun K hK => ?_) AllReadyH.nil)
              · refine step_append_g 44 22 _ 24 Try.underlying44 info_vs rfl (by decide) rfl (.tmp 96) (.tmp 98) rfl w.heap.size WA M.length wc (hdrC M) rfl HL_2_6_.out.wrow _ 1 1 (hdrC [x]) rfl rfl (.inr ⟨wd.heap.size, 0, rfl, by simp, fun i u hu => by
                  have hi : i = 0 := by have := (List.getElem?_eq_some_iff.1 hu).1; simp [hdrC, strC] at this; omega
                  subst hi
                  rw [← hu]
                  simpa [hdrC, strC, hdr] using HC_2_6_2.out⟩) (hdrC_one _) (by omega) HL_2_6_.out.sz ?_
                intro A_2_6_3_ c_2_6_3_ w_2_6_3_ ho_2_6_3_ hb_2_6_3_ hk_2_6_3_
                have HL_2_6_3_ := Lib.hid (HL_2_6_.out.addW HX0.out ho_2_6_3_ hb_2_6_3_ hk_2_6_3_)
                have HY_2_6_3_ := Lib.hid (HY_2_6_.out.kept HL_2_6_.out.wrow.2 (by decide) hk_2_6_3_)
                have HO_2_6_3_ := Lib.hid (show OwnB w_2_6_3_ bb B2 n2 c2 en from rowKept HO_2_6_.out HL_2_6_.out.wrow.2 (by decide) hk_2_6_3_)
                have hsz_2_6_3_ : wk.heap.size ≤ w_2_6_3_.heap.size := Nat.le_trans hsz_2_6_ (HSZ hk_2_6_3_ hb_2_6_3_)
                have HC_2_6_3_6 := Lib.hid (cellKept hk_2_6_3_ hl_2_6_ (fun a ha e => by have := hWA a ha; omega) HC_2_6_6.out)
                have hg_2_6_3_6 : w_2_.heap.size < w_2_6_3_.heap.size := Nat.lt_of_lt_of_le hl_2_6_ (HSZ hk_2_6_3_ hb_2_6_3_)
                refine hK.out _ _ ?_ (fun hHeld => ?_)
                · exact ⟨_, HO_2_6_3_.out⟩
                clear hK K
                try simp only [Act.put, List.setIfInBounds_toArray, List.set_cons_zero, List.set_cons_succ, List.getElem_toArray, List.getElem_cons_zero, List.getElem_cons_succ]
                refine wpAnyH_ready (rs := [7, 11]) (by kernel_rfl) (by simp) ?_
                refine AllReadyH.cons (o := _) rfl (fun K hK => ?_) (AllReadyH.cons (o := _) rfl (fun K hK => ?_) AllReadyH.nil)
                · refine step_append_g 44 22 _ 24 Try.underlying44 info_vs rfl (by decide) rfl (.tmp 100) (.tmp 102) rfl w.heap.size IA N.length ic (hdrC N) rfl HL_2_6_3_.out.irow _ 1 1 (hdrC [y]) rfl rfl (.inr ⟨w_2_.heap.size, 0, rfl, by simp, fun i u hu => by
                    have hi : i = 0 := by have := (List.getElem?_eq_some_iff.1 hu).1; simp [hdrC, strC] at this; omega
                    subst hi
                    rw [← hu]
                    simpa [hdrC, strC, hdr] using HC_2_6_3_6.out⟩) (hdrC_one _) (by omega) HL_2_6_3_.out.sz ?_
                  intro A_2_6_3_7_ c_2_6_3_7_ w_2_6_3_7_ ho_2_6_3_7_ hb_2_6_3_7_ hk_2_6_3_7_
                  have HL_2_6_3_7_ := Lib.hid (HL_2_6_3_.out.addI HY_2_6_3_.out ho_2_6_3_7_ hb_2_6_3_7_ hk_2_6_3_7_)
                  have HY_2_6_3_7_ := Lib.hid (HY_2_6_3_.out.kept HL_2_6_3_.out.irow.2 (by decide) hk_2_6_3_7_)
                  have HO_2_6_3_7_ := Lib.hid (show OwnB w_2_6_3_7_ bb B2 n2 c2 en from rowKept HO_2_6_3_.out HL_2_6_3_.out.irow.2 (by decide) hk_2_6_3_7_)
                  have hsz_2_6_3_7_ : wk.heap.size ≤ w_2_6_3_7_.heap.size := Nat.le_trans hsz_2_6_3_ (HSZ hk_2_6_3_7_ hb_2_6_3_7_)
                  refine hK.out _ _ ?_ (fun hHeld => ?_)
                  · exact ⟨_, HO_2_6_3_7_.out⟩
                  clear hK K
                  try simp only [Act.put, List.setIfInBounds_toArray, List.set_cons_zero, List.set_cons_succ, List.getElem_toArray, List.getElem_cons_zero, List.getElem_cons_succ]
                  refine wpAnyH_ready (rs := [11]) (by kernel_rfl) (by simp) ?_
                  refine AllReadyH.cons (o := _) rfl (fun K hK => ?_) AllReadyH.nil
                  go_simp
                  obtain ⟨w_2_6_3_7_11_, hw_2_6_3_7_11_⟩ : ∃ W, W = w_2_6_3_7_.alloc (.cells #[.string (strOfNums en)] 9) := ⟨_, rfl⟩
                  have hb_2_6_3_7_11_ : Below w_2_6_3_7_.heap.size w_2_6_3_7_ w_2_6_3_7_11_ := by rw [hw_2_6_3_7_11_]; exact (Below.refl _ _).alloc (Nat.le_refl _) _
                  have HL_2_6_3_7_11_ := Lib.hid (HL_2_6_3_7_.out.keep hb_2_6_3_7_11_)
                  have HY_2_6_3_7_11_ := Lib.hid (HY_2_6_3_7_.out.keep hb_2_6_3_7_11_)
                  have HO_2_6_3_7_11_ := Lib.hid (HO_2_6_3_7_.out.keep hb_2_6_3_7_11_)
                  have hsz_2_6_3_7_11_ : wk.heap.size ≤ w_2_6_3_7_11_.heap.size := Nat.le_trans hsz_2_6_3_7_ hb_2_6_3_7_11_.size
                  have hl_2_6_3_7_11_ : w_2_6_3_7_.heap.size < w_2_6_3_7_11_.heap.size := by rw [hw_2_6_3_7_11_]; simp
                  have HC_2_6_3_7_11_11 := Lib.hid (show w_2_6_3_7_11_.cell? ⟨w_2_6_3_7_.heap.size, 0, none⟩ = some (.string (strOfNums en)) by rw [hw_2_6_3_7_11_, heap_cell (heap_alloc_new _ _)]; exact rfl)
                  rw [← hw_2_6_3_7_11_]
                  clear hw_2_6_3_7_11_
                  refine hK.out _ _ ?_ (fun hHeld => ?_)
                  · exact ⟨_, HO_2_6_3_7_11_.out⟩
                  clear hK K
                  try simp only [Act.put, List.setIfInBounds_toArray, List.set_cons_zero, List.set_cons_succ, List.getElem_toArray, List.getElem_cons_zero, List.getElem_cons_succ]
                  refine wpAnyH_ready (rs := [12]) (by kernel_rfl) (by simp) ?_
                  refine AllReadyH.cons (o := _) rfl (fun K hK => ?_) AllReadyH.nil
                  refine step_append_g 47 9 _ 16 Try.underlying47 info_str rfl (by decide) rfl (.tmp 104) (.tmp 107) rfl w.heap.size SA S.length sc (strC S) rfl HL_2_6_3_7_11_.out.srow _ 1 1 (strC [en]) rfl rfl (.inr ⟨w_2_6_3_7_.heap.size, 0, rfl, by simp, fun i u hu => by
                    have hi : i = 0 := by have := (List.getElem?_eq_some_iff.1 hu).1; simp [hdrC, strC] at this; omega
                    subst hi
                    rw [← hu]
                    simpa [hdrC, strC, hdr] using HC_2_6_3_7_11_11.out⟩) (strC_one _) (by omega) HL_2_6_3_7_11_.out.sz ?_
                  intro A_2_6_3_7_11_12_ c_2_6_3_7_11_12_ w_2_6_3_7_11_12_ ho_2_6_3_7_11_12_ hb_2_6_3_7_11_12_ hk_2_6_3_7_11_12_
                  have HL_2_6_3_7_11_12_ := Lib.hid (HL_2_6_3_7_11_.out.addS ho_2_6_3_7_11_12_ hb_2_6_3_7_11_12_ hk_2_6_3_7_11_12_)
                  have HY_2_6_3_7_11_12_ := Lib.hid (HY_2_6_3_7_11_.out.kept HL_2_6_3_7_11_.out.srow.2 (by decide) hk_2_6_3_7_11_12_)
                  have HO_2_6_3_7_11_12_ := Lib.hid (show OwnB w_2_6_3_7_11_12_ bb B2 n2 c2 en from rowKept HO_2_6_3_7_11_.out HL_2_6_3_7_11_.out.srow.2 (by decide) hk_2_6_3_7_11_12_)
                  have hsz_2_6_3_7_11_12_ : wk.heap.size ≤ w_2_6_3_7_11_12_.heap.size := Nat.le_trans hsz_2_6_3_7_11_ (HSZ hk_2_6_3_7_11_12_ hb_2_6_3_7_11_12_)
                  refine hK.out _ _ ?_ (fun hHeld => ?_)
                  · exact ⟨_, HO_2_6_3_7_11_12_.out⟩
                  clear hK K
                  try simp only [Act.put, List.setIfInBounds_toArray, List.set_cons_zero, List.set_cons_succ, List.getElem_toArray, List.getElem_cons_zero, List.getElem_cons_succ]
                  refine' wpAnyH_take (i := 13) (oi := _) (v := _) rfl (by kernel_rfl) (by kernel_rfl) (by kernel_rfl) (fun _ _ _ h => h) (Or.inl ⟨by rfl, ?hz24⟩) (by assumption) ?rezt24
                  case hz24 => (intro w' hSw; (try dsimp only at hSw); go_simp; try with_reducible rfl)
                  try simp only [Act.put, List.setIfInBounds_toArray, List.set_cons_zero, List.set_cons_succ, List.getElem_toArray, List.getElem_cons_zero, List.getElem_cons_succ]
                  refine' wpAnyH_take (i := 14) (oi := _) (v := _) rfl (by kernel_rfl) (by kernel_rfl) (by kernel_rfl) (fun _ _ _ h => h) (Or.inl ⟨by rfl, ?hz25⟩) (by assumption) ?rezt25
                  case hz25 => (intro w' hSw; (try dsimp only at hSw); go_simp; try with_reducible rfl)
                  try simp only [Act.put, List.setIfInBounds_toArray, List.set_cons_zero, List.set_cons_succ, List.getElem_toArray, List.getElem_cons_zero, List.getElem_cons_succ]
                  refine' wpAnyH_take (i := 15) (oi := _) (v := _) rfl (by kernel_rfl) (by kernel_rfl) (by kernel_rfl) (fun _ _ _ h => h) (Or.inl ⟨by rfl, ?hz26⟩) (by assumption) ?rezt26
                  case hz26 => (intro w' hSw; (try dsimp only at hSw); go_simp; try with_reducible rfl)
                  try simp only [Act.put, List.setIfInBounds_toArray, List.set_cons_zero, List.set_cons_succ, List.getElem_toArray, List.getElem_cons_zero, List.getElem_cons_succ]
                  refine wpAnyH_done (by kernel_rfl) ?_ _
                  have HR := Lib.hid (HREL.out _ _ _ _ _ _ _ HL_2_6_3_7_11_12_.out)
                  go_wp2_with fail
                  go_roundw
                  case rel => exact HR.out
                  case measure => simp [intOf]; omega
                · go_simp
                  obtain ⟨w_2_6_3_11_, hw_2_6_3_11_⟩ : ∃ W, W = w_2_6_3_.alloc (.cells #[.string (strOfNums en)] 9) := ⟨_, rfl⟩
                  have hb_2_6_3_11_ : Below w_2_6_3_.heap.size w_2_6_3_ w_2_6_3_11_ := by rw [hw_2_6_3_11_]; exact (Below.refl _ _).alloc (Nat.le_refl _) _
                  have HL_2_6_3_11_ := Lib.hid (HL_2_6_3_.out.keep hb_2_6_3_11_)
                  have HY_2_6_3_11_ := Lib.hid (HY_2_6_3_.out.keep hb_2_6_3_11_)
                  have HO_2_6_3_11_ := Lib.hid (HO_2_6_3_.out.keep hb_2_6_3_11_)
                  have hsz_2_6_3_11_ : wk.heap.size ≤ w_2_6_3_11_.heap.size := Nat.le_trans hsz_2_6_3_ hb_2_6_3_11_.size
                  have hl_2_6_3_11_ : w_2_6_3_.heap.size < w_2_6_3_11_.heap.size := by rw [hw_2_6_3_11_]; simp
                  have HC_2_6_3_11_11 := Lib.hid (show w_2_6_3_11_.cell? ⟨w_2_6_3_.heap.size, 0, none⟩ = some (.string (strOfNums en)) by rw [hw_2_6_3_11_, heap_cell (heap_alloc_new _ _)]; exact rfl)
                  have HC_2_6_3_11_6 := Lib.hid ((hb_2_6_3_11_.cell (p := ⟨w_2_.heap.size, 0, none⟩) hg_2_6_3_6).trans HC_2_6_3_6.out)
                  have hg_2_6_3_11_6 : w_2_.heap.size < w_2_6_3_11_.heap.size := Nat.lt_of_lt_of_le hg_2_6_3_6 hb_2_6_3_11_.size
                  rw [← hw_2_6_3_11_]
                  clear hw_2_6_3_11_
                  refine hK.out _ _ ?_ (fun hHeld => ?_)
                  · exact ⟨_, HO_2_6_3_11_.out⟩
                  clear hK K
                  try simp only [Act.put, List.setIfInBounds_toArray, List.set_cons_zero, List.set_cons_succ, List.getElem_toArray, List.getElem_cons_zero, List.getElem_cons_succ]
                  refine wpAnyH_ready (rs := [7]) (by kernel_rfl) (by simp) ?_
                  refine AllReadyH.cons (o := _) rfl (fun K hK => ?_) AllReadyH.nil
                  refine step_append_g 44 22 _ 24 Try.underlying44 info_vs rfl (by decide) rfl (.tmp 100) (.tmp 102) rfl w.heap.size IA N.length ic (hdrC N) rfl HL_2_6_3_11_.out.irow _ 1 1 (hdrC [y]) rfl rfl (.inr ⟨w_2_.heap.size, 0, rfl, by simp, fun i u hu => by
                    have hi : i = 0 := by have := (List.getElem?_eq_some_iff.1 hu).1; simp [hdrC, strC] at this; omega
                    subst hi
                    rw [← hu]
                    simpa [hdrC, strC, hdr] using HC_2_6_3_11_6.out⟩) (hdrC_one _) (by omega) HL_2_6_3_11_.out.sz ?_
                  intro A_2_6_3_11_7_ c_2_6_3_11_7_ w_2_6_3_11_7_ ho_2_6_3_11_7_ hb_2_6_3_11_7_ hk_2_6_3_11_7_
                  have HL_2_6_3_11_7_ := Lib.hid (HL_2_6_3_11_.out.addI HY_2_6_3_11_.out ho_2_6_3_11_7_ hb_2_6_3_11_7_ hk_2_6_3_11_7_)
                  have HY_2_6_3_11_7_ := Lib.hid (HY_2_6_3_11_.out.kept HL_2_6_3_11_.out.irow.2 (by decide) hk_2_6_3_11_7_)
                  have HO_2_6_3_11_7_ := Lib.hid (show OwnB w_2_6_3_11_7_ bb B2 n2 c2 en from rowKept HO_2_6_3_11_.out HL_2_6_3_11_.out.irow.2 (by decide) hk_2_6_3_11_7_)
                  have hsz_2_6_3_11_7_ : wk.heap.size ≤ w_2_6_3_11_7_.heap.size := Nat.le_trans hsz_2_6_3_11_ (HSZ hk_2_6_3_11_7_ hb_2_6_3_11_7_)
                  have HC_2_6_3_11_7_11 := Lib.hid (cellKept hk_2_6_3_11_7_ hl_2_6_3_11_ (fun a ha e => by have := hIA a ha; omega) HC_2_6_3_11_11.out)
                  have hg_2_6_3_11_7_11 : w_2_6_3_.heap.size < w_2_6_3_11_7_.heap.size := Nat.lt_of_lt_of_le hl_2_6_3_11_ (HSZ hk_2_6_3_11_7_ hb_2_6_3_11_7_)
                  refine hK.out _ _ ?_ (fun hHeld => ?_)
                  · exact ⟨_, HO_2_6_3_11_7_.out⟩
                  clear hK K
                  try simp only [Act.put, List.setIfInBounds_toArray, List.set_cons_zero, List.set_cons_succ, List.getElem_toArray, List.getElem_cons_zero, List.getElem_cons_succ]
                  refine wpAnyH_ready (rs := [12]) (by kernel_rfl) (by simp) ?_
                  refine AllReadyH.cons (o := _) rfl (fun K hK => ?_) AllReadyH.nil
                  refine step_append_g 47 9 _ 16 Try.underlying47 info_str rfl (by decide) rfl (.tmp 104) (.tmp 107) rfl w.heap.size SA S.length sc (strC S) rfl HL_2_6_3_11_7_.out.srow _ 1 1 (strC [en]) rfl rfl (.inr ⟨w_2_6_3_.heap.size, 0, rfl, by simp, fun i u hu => by
                    have hi : i = 0 := by have := (List.getElem?_eq_some_iff.1 hu).1; simp [hdrC, strC] at this; omega
                    subst hi
                    rw [← hu]
                    simpa [hdrC, strC, hdr] using HC_2_6_3_11_7_11.out⟩) (strC_one _) (by omega) HL_2_6_3_11_7_.out.sz ?_
                  intro A_2_6_3_11_7_12_ c_2_6_3_11_7_12_ w_2_6_3_11_7_12_ ho_2_6_3_11_7_12_ hb_2_6_3_11_7_12_ hk_2_6_3_11_7_12_
                  have HL_2_6_3_11_7_12_ := Lib.hid (HL_2_6_3_11_7_.out.addS ho_2_6_3_11_7_12_ hb_2_6_3_11_7_12_ hk_2_6_3_11_7_12_)
                  have HY_2_6_3_11_7_12_ := Lib.hid (HY_2_6_3_11_7_.out.kept HL_2_6_3_11_7_.out.srow.2 (by decide) hk_2_6_3_11_7_12_)
                  have HO_2_6_3_11_7_12_ := Lib.hid (show OwnB w_2_6_3_11_7_12_ bb B2 n2 c2 en from rowKept HO_2_6_3_11_7_.out HL_2_6_3_11_7_.out.srow.2 (by decide) hk_2_6_3_11_7_12_)
                  have hsz_2_6_3_11_7_12_ : wk.heap.size ≤ w_2_6_3_11_7_12_.heap.size := Nat.le_trans hsz_2_6_3_11_7_ (HSZ hk_2_6_3_11_7_12_ hb_2_6_3_11_7_12_)
                  refine hK.out _ _ ?_ (fun hHeld => ?_)
                  · exact ⟨_, HO_2_6_3_11_7_12_.out⟩
                  clear hK K
                  try simp only [Act.put, List.setIfInBounds_toArray, List.set_cons_zero, List.set_cons_succ, List.getElem_toArray, List.getElem_cons_zero, List.getElem_cons_succ]
                  refine' wpAnyH_take (i := 13) (oi := _) (v := _) rfl (by kernel_rfl) (by kernel_rfl) (by kernel_rfl) (fun _ _ _ h => h) (Or.inl ⟨by rfl, ?hz27⟩) (by assumption) ?rezt27
                  case hz27 => (intro w' hSw; (try dsimp only at hSw); go_simp; try with_reducible rfl)
                  try simp only [Act.put, List.setIfInBounds_toArray, List.set_cons_zero, List.set_cons_succ, List.getElem_toArray, List.getElem_cons_zero, List.getElem_cons_succ]
                  refine' wpAnyH_take (i := 14) (oi := _) (v := _) rfl (by kernel_rfl) (by kernel_rfl) (by kernel_rfl) (fun _ _ _ h => h) (Or.inl ⟨by rfl, ?hz28⟩) (by assumption) ?rezt28
                  case hz28 => (intro w' hSw; (try dsimp only at hSw); go_simp; try with_reducible rfl)
                  try simp only [Act.put, List.setIfInBounds_toArray, List.set_cons_zero, List.set_cons_succ, List.getElem_toArray, List.getElem_cons_zero, List.getElem_cons_succ]
                  refine' wpAnyH_take (i := 15) (oi := _) (v := _) rfl (by kernel_rfl) (by kernel_rfl) (by kernel_rfl) (fun _ _ _ h => h) (Or.inl ⟨by rfl, ?hz29⟩) (by assumption) ?rezt29
                  case hz29 => (intro w' hSw; (try dsimp only at hSw); go_simp; try with_reducible rfl)
                  try simp only [Act.put, List.setIfInBounds_toArray, List.set_cons_zero, List.set_cons_succ, List.getElem_toArray, List.getElem_cons_zero, List.getElem_cons_succ]
                  refine wpAnyH_done (by kernel_rfl) ?_ _
                  have HR := Lib.hid (HREL.out _ _ _ _ _ _ _ HL_2_6_3_11_7_12_.out)
                  go_wp2_with fail
                  go_roundw
                  case rel => exact HR.out
                  case measure => simp [intOf]; omega
              · go_simp
                obtain ⟨w_2_6_11_, hw_2_6_11_⟩ : ∃ W, W = w_2_6_.alloc (.cells #[.string (strOfNums en)] 9) := ⟨_, rfl⟩
                have hb_2_6_11_ : Below w_2_6_.heap.size w_2_6_ w_2_6_11_ := by rw [hw_2_6_11_]; exact (Below.refl _ _).alloc (Nat.le_refl _) _
                have HL_2_6_11_ := Lib.hid (HL_2_6_.out.keep hb_2_6_11_)
                have HY_2_6_11_ := Lib.hid (HY_2_6_.out.keep hb_2_6_11_)
                have HO_2_6_11_ := Lib.hid (HO_2_6_.out.keep hb_2_6_11_)
                have hsz_2_6_11_ : wk.heap.size ≤ w_2_6_11_.heap.size := Nat.le_trans hsz_2_6_ hb_2_6_11_.size
                have hl_2_6_11_ : w_2_6_.heap.size < w_2_6_11_.heap.size := by rw [hw_2_6_11_]; simp
                have HC_2_6_11_11 := Lib.hid (show w_2_6_11_.cell? ⟨w_2_6_.heap.size, 0, none⟩ = some (.string (strOfNums en)) by rw [hw_2_6_11_, heap_cell (heap_alloc_new _ _)]; exact rfl)
                have HC_2_6_11_2 := Lib.hid ((hb_2_6_11_.cell (p := ⟨wd.heap.size, 0, none⟩) hg_2_6_2).trans HC_2_6_2.out)
                have hg_2_6_11_2 : wd.heap.size < w_2_6_11_.heap.size := Nat.lt_of_lt_of_le hg_2_6_2 hb_2_6_11_.size
                have HC_2_6_11_6 := Lib.hid ((hb_2_6_11_.cell (p := ⟨w_2_.heap.size, 0, none⟩) hl_2_6_).trans HC_2_6_6.out)
                have hg_2_6_11_6 : w_2_.heap.size < w_2_6_11_.heap.size := Nat.lt_of_lt_of_le hl_2_6_ hb_2_6_11_.size
                rw [← hw_2_6_11_]
                clear hw_2_6_11_
                refine hK.out _ _ ?_ (fun hHeld => ?_)
                · exact ⟨_, HO_2_6_11_.out⟩
                clear hK K
                try simp only [Act.put, List.setIfInBounds_toArray, List.set_cons_zero, List.set_cons_succ, List.getElem_toArray, List.getElem_cons_zero, List.getElem_cons_succ]
                refine wpAnyH_ready (rs := [3]) (by kernel_rfl) (by simp) ?_
                refine AllReadyH.cons (o := _) rfl (fun K hK => ?_) AllReadyH.nil
                refine step_append_g 44 22 _ 24 Try.underlying44 info_vs rfl (by decide) rfl (.tmp 96) (.tmp 98) rfl w.heap.size WA M.length wc (hdrC M) rfl HL_2_6_11_.out.wrow _ 1 1 (hdrC [x]) rfl rfl (.inr ⟨wd.heap.size, 0, rfl, by simp, fun i u hu => by
                  have hi : i = 0 := by have := (List.getElem?_eq_some_iff.1 hu).1; simp [hdrC, strC] at this; omega
                  subst hi
                  rw [← hu]
                  simpa [hdrC, strC, hdr] using HC_2_6_11_2.out⟩) (hdrC_one _) (by omega) HL_2_6_11_.out.sz ?_
                intro A_2_6_11_3_ c_2_6_11_3_ w_2_6_11_3_ ho_2_6_11_3_ hb_2_6_11_3_ hk_2_6_11_3_
                have HL_2_6_11_3_ := Lib.hid (HL_2_6_11_.out.addW HX0.out ho_2_6_11_3_ hb_2_6_11_3_ hk_2_6_11_3_)
                have HY_2_6_11_3_ := Lib.hid (HY_2_6_11_.out.kept HL_2_6_11_.out.wrow.2 (by decide) hk_2_6_11_3_)
                have HO_2_6_11_3_ := Lib.hid (show OwnB w_2_6_11_3_ bb B2 n2 c2 en from rowKept HO_2_6_11_.out HL_2_6_11_.out.wrow.2 (by decide) hk_2_6_11_3_)
                have hsz_2_6_11_3_ : wk.heap.size ≤ w_2_6_11_3_.heap.size := Nat.le_trans hsz_2_6_11_ (HSZ hk_2_6_11_3_ hb_2_6_11_3_)
                have HC_2_6_11_3_6 := Lib.hid (cellKept hk_2_6_11_3_ hg_2_6_11_6 (fun a ha e => by have := hWA a ha; omega) HC_2_6_11_6.out)
                have hg_2_6_11_3_6 : w_2_.heap.size < w_2_6_11_3_.heap.size := Nat.lt_of_lt_of_le hg_2_6_11_6 (HSZ hk_2_6_11_3_ hb_2_6_11_3_)
                have HC_2_6_11_3_11 := Lib.hid (cellKept hk_2_6_11_3_ hl_2_6_11_ (fun a ha e => by have := hWA a ha; omega) HC_2_6_11_11.out)
                have hg_2_6_11_3_11 : w_2_6_.heap.size < w_2_6_11_3_.heap.size := Nat.lt_of_lt_of_le hl_2_6_11_ (HSZ hk_2_6_11_3_ hb_2_6_11_3_)
                refine hK.out _ _ ?_ (fun hHeld => ?_)
                · exact ⟨_, HO_2_6_11_3_.out⟩
                clear hK K
                try simp only [Act.put, List.setIfInBounds_toArray, List.set_cons_zero, List.set_cons_succ, List.getElem_toArray, List.getElem_cons_zero, List.getElem_cons_succ]
                refine wpAnyH_ready (rs := [7]) (by kernel_rfl) (by simp) ?_
                refine AllReadyH.cons (o := _) rfl (fun K hK => ?_) AllReadyH.nil
                refine step_append_g 44 22 _ 24 Try.underlying44 info_vs rfl (by decide) rfl (.tmp 100) (.tmp 102) rfl w.heap.size IA N.length ic (hdrC N) rfl HL_2_6_11_3_.out.irow _ 1 1 (hdrC [y]) rfl rfl (.inr ⟨w_2_.heap.size, 0, rfl, by simp, fun i u hu => by
                  have hi : i = 0 := by have := (List.getElem?_eq_some_iff.1 hu).1; simp [hdrC, strC] at this; omega
                  subst hi
                  rw [← hu]
                  simpa [hdrC, strC, hdr] using HC_2_6_11_3_6.out⟩) (hdrC_one _) (by omega) HL_2_6_11_3_.out.sz ?_
                intro A_2_6_11_3_7_ c_2_6_11_3_7_ w_2_6_11_3_7_ ho_2_6_11_3_7_ hb_2_6_11_3_7_ hk_2_6_11_3_7_
                have HL_2_6_11_3_7_ := Lib.hid (HL_2_6_11_3_.out.addI HY_2_6_11_3_.out ho_2_6_11_3_7_ hb_2_6_11_3_7_ hk_2_6_11_3_7_)
                have HY_2_6_11_3_7_ := Lib.hid (HY_2_6_11_3_.out.kept HL_2_6_11_3_.out.irow.2 (by decide) hk_2_6_11_3_7_)
                have HO_2_6_11_3_7_ := Lib.hid (show OwnB w_2_6_11_3_7_ bb B2 n2 c2 en from rowKept HO_2_6_11_3_.out HL_2_6_11_3_.out.irow.2 (by decide) hk_2_6_11_3_7_)
                have hsz_2_6_11_3_7_ : wk.heap.size ≤ w_2_6_11_3_7_.heap.size := Nat.le_trans hsz_2_6_11_3_ (HSZ hk_2_6_11_3_7_ hb_2_6_11_3_7_)
                have HC_2_6_11_3_7_11 := Lib.hid (cellKept hk_2_6_11_3_7_ hg_2_6_11_3_11 (fun a ha e => by have := hIA a ha; omega) HC_2_6_11_3_11.out)
                have hg_2_6_11_3_7_11 : w_2_6_.heap.size < w_2_6_11_3_7_.heap.size := Nat.lt_of_lt_of_le hg_2_6_11_3_11 (HSZ hk_2_6_11_3_7_ hb_2_6_11_3_7_)
                refine hK.out _ _ ?_ (fun hHeld => ?_)
                · exact ⟨_, HO_2_6_11_3_7_.out⟩
                clear hK K
                try simp only [Act.put, List.setIfInBounds_toArray, List.set_cons_zero, List.set_cons_succ, List.getElem_toArray, List.getElem_cons_zero, List.getElem_cons_succ]
                refine wpAnyH_ready (rs := [12]) (by kernel_rfl) (by simp) ?_
                refine AllReadyH.cons (o := _) rfl (fun K hK => ?_) AllReadyH.nil
                refine step_append_g 47 9 _ 16 Try.underlying47 info_str rfl (by decide) rfl (.tmp 104) (.tmp 107) rfl w.heap.size SA S.length sc (strC S) rfl HL_2_6_11_3_7_.out.srow _ 1 1 (strC [en]) rfl rfl (.inr ⟨w_2_6_.heap.size, 0, rfl, by simp, fun i u hu => by
                  have hi : i = 0 := by have := (List.getElem?_eq_some_iff.1 hu).1; simp [hdrC, strC] at this; omega
                  subst hi
                  rw [← hu]
                  simpa [hdrC, strC, hdr] using HC_2_6_11_3_7_11.out⟩) (strC_one _) (by omega) HL_2_6_11_3_7_.out.sz ?_
                intro A_2_6_11_3_7_12_ c_2_6_11_3_7_12_ w_2_6_11_3_7_12_ ho_2_6_11_3_7_12_ hb_2_6_11_3_7_12_ hk_2_6_11_3_7_12_
                have HL_2_6_11_3_7_12_ := Lib.hid (HL_2_6_11_3_7_.out.addS ho_2_6_11_3_7_12_ hb_2_6_11_3_7_12_ hk_2_6_11_3_7_12_)
                have HY_2_6_11_3_7_12_ := Lib.hid (HY_2_6_11_3_7_.out.kept HL_2_6_11_3_7_.out.srow.2 (by decide) hk_2_6_11_3_7_12_)
                have HO_2_6_11_3_7_12_ := Lib.hid (show OwnB w_2_6_11_3_7_12_ bb B2 n2 c2 en from rowKept HO_2_6_11_3_7_.out HL_2_6_11_3_7_.out.srow.2 (by decide) hk_2_6_11_3_7_12_)
                have hsz_2_6_11_3_7_12_ : wk.heap.size ≤ w_2_6_11_3_7_12_.heap.size := Nat.le_trans hsz_2_6_11_3_7_ (HSZ hk_2_6_11_3_7_12_ hb_2_6_11_3_7_12_)
                refine hK.out _ _ ?_ (fun hHeld => ?_)
                · exact ⟨_, HO_2_6_11_3_7_12_.out⟩
                clear hK K
                try simp only [Act.put, List.setIfInBounds_toArray, List.set_cons_zero, List.set_cons_succ, List.getElem_toArray, List.getElem_cons_zero, List.getElem_cons_succ]
                refine' wpAnyH_take (i := 13) (oi := _) (v := _) rfl (by kernel_rfl) (by kernel_rfl) (by kernel_rfl) (fun _ _ _ h => h) (Or.inl ⟨by rfl, ?hz30⟩) (by assumption) ?rezt30
                case hz30 => (intro w' hSw; (try dsimp only at hSw); go_simp; try with_reducible rfl)
                try simp only [Act.put, List.setIfInBounds_toArray, List.set_cons_zero, List.set_cons_succ, List.getElem_toArray, List.getElem_cons_zero, List.getElem_cons_succ]
                refine' wpAnyH_take (i := 14) (oi := _) (v := _) rfl (by kernel_rfl) (by kernel_rfl) (by kernel_rfl) (fun _ _ _ h => h) (Or.inl ⟨by rfl, ?hz31⟩) (by assumption) ?rezt31
                case hz31 => (intro w' hSw; (try dsimp only at hSw); go_simp; try with_reducible rfl)
                try simp only [Act.put, List.setIfInBounds_toArray, List.set_cons_zero, List.set_cons_succ, List.getElem_toArray, List.getElem_cons_zero, List.getElem_cons_succ]
                refine' wpAnyH_take (i := 15) (oi := _) (v := _) rfl (by kernel_rfl) (by kernel_rfl) (by kernel_rfl) (fun _ _ _ h => h) (Or.inl ⟨by rfl, ?hz32⟩) (by assumption) ?rezt32
                case hz32 => (intro w' hSw; (try dsimp only at hSw); go_simp; try with_reducible rfl)
                try simp only [Act.put, List.setIfInBounds_toArray, List.set_cons_zero, List.set_cons_succ, List.getElem_toArray, List.getElem_cons_zero, List.getElem_cons_succ]
                refine wpAnyH_done (by kernel_rfl) ?_ _
                have HR := Lib.hid (HREL.out _ _ _ _ _ _ _ HL_2_6_11_3_7_12_.out)
                go_wp2_with fail
                go_roundw
                case rel => exact HR.out
                case measure => simp [intOf]; omega
            · go_simp
              obtain ⟨w_2_11_, hw_2_11_⟩ : ∃ W, W = w_2_.alloc (.cells #[.string (strOfNums en)] 9) := ⟨_, rfl⟩
              have hb_2_11_ : Below w_2_.heap.size w_2_ w_2_11_ := by rw [hw_2_11_]; exact (Below.refl _ _).alloc (Nat.le_refl _) _
              have HL_2_11_ := Lib.hid (HL_2_.out.keep hb_2_11_)
              have HY_2_11_ := Lib.hid (HY_2_.out.keep hb_2_11_)
              have HO_2_11_ := Lib.hid (HO_2_.out.keep hb_2_11_)
              have hsz_2_11_ : wk.heap.size ≤ w_2_11_.heap.size := Nat.le_trans hsz_2_ hb_2_11_.size
              have hl_2_11_ : w_2_.heap.size < w_2_11_.heap.size := by rw [hw_2_11_]; simp
              have HC_2_11_11 := Lib.hid (show w_2_11_.cell? ⟨w_2_.heap.size, 0, none⟩ = some (.string (strOfNums en)) by rw [hw_2_11_, heap_cell (heap_alloc_new _ _)]; exact rfl)
              have HC_2_11_2 := Lib.hid ((hb_2_11_.cell (p := ⟨wd.heap.size, 0, none⟩) hl_2_).trans HC_2_2.out)
              have hg_2_11_2 : wd.heap.size < w_2_11_.heap.size := Nat.lt_of_lt_of_le hl_2_ hb_2_11_.size
              rw [← hw_2_11_]
              clear hw_2_11_
              refine hK.out _ _ ?_ (fun hHeld => ?_)
              · exact ⟨_, HO_2_11_.out⟩
              clear hK K
              try simp only [Act.put, List.setIfInBounds_toArray, List.set_cons_zero, List.set_cons_succ, List.getElem_toArray, List.getElem_cons_zero, List.getElem_cons_succ]
              refine wpAnyH_ready (rs := [3, 6]) (by kernel_rfl) (by simp) ?_
              refine AllReadyH.cons (o := _) rfl (fun K hK => ?_) (AllReadyH.cons (o := _) rfl (fun K hK => ?_) AllReadyH.nil)
              · refine step_append_g 44 22 _ 24 Try.underlying44 info_vs rfl (by decide) rfl (.tmp 96) (.tmp 98) rfl w.heap.size WA M.length wc (hdrC M) rfl HL_2_11_.out.wrow _ 1 1 (hdrC [x]) rfl rfl (.inr ⟨wd.heap.size, 0, rfl, by simp, fun i u hu => by
                  have hi : i = 0 := by have := (List.getElem?_eq_some_iff.1 hu).1; simp [hdrC, strC] at this; omega
                  subst hi
                  rw [← hu]
                  simpa [hdrC, strC, hdr] using HC_2_11_2.out⟩) (hdrC_one _) (by omega) HL_2_11_.out.sz ?_
                intro A_2_11_3_ c_2_11_3_ w_2_11_3_ ho_2_11_3_ hb_2_11_3_ hk_2_11_3_
                have HL_2_11_3_ := Lib.hid (HL_2_11_.out.addW HX0.out ho_2_11_3_ hb_2_11_3_ hk_2_11_3_)
                have HY_2_11_3_ := Lib.hid (HY_2_11_.out.kept HL_2_11_.out.wrow.2 (by decide) hk_2_11_3_)
                have HO_2_11_3_ := Lib.hid (show OwnB w_2_11_3_ bb B2 n2 c2 en from rowKept HO_2_11_.out HL_2_11_.out.wrow.2 (by decide) hk_2_11_3_)
                have hsz_2_11_3_ : wk.heap.size ≤ w_2_11_3_.heap.size := Nat.le_trans hsz_2_11_ (HSZ hk_2_11_3_ hb_2_11_3_)
                have HC_2_11_3_11 := Lib.hid (cellKept hk_2_11_3_ hl_2_11_ (fun a ha e => by have := hWA a ha; omega) HC_2_11_11.out)
                have hg_2_11_3_11 : w_2_.heap.size < w_2_11_3_.heap.size := Nat.lt_of_lt_of_le hl_2_11_ (HSZ hk_2_11_3_ hb_2_11_3_)
                refine hK.out _ _ ?_ (fun hHeld => ?_)
                · exact ⟨_, HO_2_11_3_.out⟩
                clear hK K
                try simp only [Act.put, List.setIfInBounds_toArray, List.set_cons_zero, List.set_cons_succ, List.getElem_toArray, List.getElem_cons_zero, List.getElem_cons_succ]
                refine wpAnyH_ready (rs := [6]) (by kernel_rfl) (by simp) ?_
                refine AllReadyH.cons (o := _) rfl (fun K hK => ?_) AllReadyH.nil
                go_simp
                obtain ⟨w_2_11_3_6_, hw_2_11_3_6_⟩ : ∃ W, W = w_2_11_3_.alloc (.cells #[.slice D3 m3 d3] 22) := ⟨_, rfl⟩
                have hb_2_11_3_6_ : Below w_2_11_3_.heap.size w_2_11_3_ w_2_11_3_6_ := by rw [hw_2_11_3_6_]; exact (Below.refl _ _).alloc (Nat.le_refl _) _
                have HL_2_11_3_6_ := Lib.hid (HL_2_11_3_.out.keep hb_2_11_3_6_)
                have HY_2_11_3_6_ := Lib.hid (HY_2_11_3_.out.keep hb_2_11_3_6_)
                have HO_2_11_3_6_ := Lib.hid (HO_2_11_3_.out.keep hb_2_11_3_6_)
                have hsz_2_11_3_6_ : wk.heap.size ≤ w_2_11_3_6_.heap.size := Nat.le_trans hsz_2_11_3_ hb_2_11_3_6_.size
                have hl_2_11_3_6_ : w_2_11_3_.heap.size < w_2_11_3_6_.heap.size := by rw [hw_2_11_3_6_]; simp
                have HC_2_11_3_6_6 := Lib.hid (show w_2_11_3_6_.cell? ⟨w_2_11_3_.heap.size, 0, none⟩ = some (hdr y) by rw [hw_2_11_3_6_, heap_cell (heap_alloc_new _ _)]; exact congrArg some HYV.out)
                have HC_2_11_3_6_11 := Lib.hid ((hb_2_11_3_6_.cell (p := ⟨w_2_.heap.size, 0, none⟩) hg_2_11_3_11).trans HC_2_11_3_11.out)
                have hg_2_11_3_6_11 : w_2_.heap.size < w_2_11_3_6_.heap.size := Nat.lt_of_lt_of_le hg_2_11_3_11 hb_2_11_3_6_.size
                rw [← hw_2_11_3_6_]
                clear hw_2_11_3_6_
                refine hK.out _ _ ?_ (fun hHeld => ?_)
                · exact ⟨_, HO_2_11_3_6_.out⟩
                clear hK K
                try simp only [Act.put, List.setIfInBounds_toArray, List.set_cons_zero, List.set_cons_succ, List.getElem_toArray, List.getElem_cons_zero, List.getElem_cons_succ]
                refine wpAnyH_ready (rs := [7]) (by kernel_rfl) (by simp) ?_
                refine AllReadyH.cons (o := _) rfl (fun K hK => ?_) AllReadyH.nil
                refine step_append_g 44 22 _ 24 Try.underlying44 info_vs rfl (by decide) rfl (.tmp 100) (.tmp 102) rfl w.heap.size IA N.length ic (hdrC N) rfl HL_2_11_3_6_.out.irow _ 1 1 (hdrC [y]) rfl rfl (.inr ⟨w_2_11_3_.heap.size, 0, rfl, by simp, fun i u hu => by
                  have hi : i = 0 := by have := (List.getElem?_eq_some_iff.1 hu).1; simp [hdrC, strC] at this; omega
                  subst hi
                  rw [← hu]
                  simpa [hdrC, strC, hdr] using HC_2_11_3_6_6.out⟩) (hdrC_one _) (by omega) HL_2_11_3_6_.out.sz ?_
                intro A_2_11_3_6_7_ c_2_11_3_6_7_ w_2_11_3_6_7_ ho_2_11_3_6_7_ hb_2_11_3_6_7_ hk_2_11_3_6_7_
                have HL_2_11_3_6_7_ := Lib.hid (HL_2_11_3_6_.out.addI HY_2_11_3_6_.out ho_2_11_3_6_7_ hb_2_11_3_6_7_ hk_2_11_3_6_7_)
                have HY_2_11_3_6_7_ := Lib.hid (HY_2_11_3_6_.out.kept HL_2_11_3_6_.out.irow.2 (by decide) hk_2_11_3_6_7_)
                have HO_2_11_3_6_7_ := Lib.hid (show OwnB w_2_11_3_6_7_ bb B2 n2 c2 en from rowKept HO_2_11_3_6_.out HL_2_11_3_6_.out.irow.2 (by decide) hk_2_11_3_6_7_)
                have hsz_2_11_3_6_7_ : wk.heap.size ≤ w_2_11_3_6_7_.heap.size := Nat.le_trans hsz_2_11_3_6_ (HSZ hk_2_11_3_6_7_ hb_2_11_3_6_7_)
                have HC_2_11_3_6_7_11 := Lib.hid (cellKept hk_2_11_3_6_7_ hg_2_11_3_6_11 (fun a ha e => by have := hIA a ha; omega) HC_2_11_3_6_11.out)
                have hg_2_11_3_6_7_11 : w_2_.heap.size < w_2_11_3_6_7_.heap.size := Nat.lt_of_lt_of_le hg_2_11_3_6_11 (HSZ hk_2_11_3_6_7_ hb_2_11_3_6_7_)
                refine hK.out _ _ ?_ (fun hHeld => ?_)
                · exact ⟨_, HO_2_11_3_6_7_.out⟩
                clear hK K
                try simp only [Act.put, List.setIfInBounds_toArray, List.set_cons_zero, List.set_cons_succ, List.getElem_toArray, List.getElem_cons_zero, List.getElem_cons_succ]
                refine wpAnyH_ready (rs := [12]) (by kernel_rfl) (by simp) ?_
                refine AllReadyH.cons (o := _) rfl (fun K hK => ?_) AllReadyH.nil
                refine step_append_g 47 9 _ 16 Try.underlying47 info_str rfl (by decide) rfl (.tmp 104) (.tmp 107) rfl w.heap.size SA S.length sc (strC S) rfl HL_2_11_3_6_7_.out.srow _ 1 1 (strC [en]) rfl rfl (.inr ⟨w_2_.heap.size, 0, rfl, by simp, fun i u hu => by
                  have hi : i = 0 := by have := (List.getElem?_eq_some_iff.1 hu).1; simp [hdrC, strC] at this; omega
                  subst hi
                  rw [← hu]
                  simpa [hdrC, strC, hdr] using HC_2_11_3_6_7_11.out⟩) (strC_one _) (by omega) HL_2_11_3_6_7_.out.sz ?_
                intro A_2_11_3_6_7_12_ c_2_11_3_6_7_12_ w_2_11_3_6_7_12_ ho_2_11_3_6_7_12_ hb_2_11_3_6_7_12_ hk_2_11_3_6_7_12_
                have HL_2_11_3_6_7_12_ := Lib.hid (HL_2_11_3_6_7_.out.addS ho_2_11_3_6_7_12_ hb_2_11_3_6_7_12_ hk_2_11_3_6_7_12_)
                have HY_2_11_3_6_7_12_ := Lib.hid (HY_2_11_3_6_7_.out.kept HL_2_11_3_6_7_.out.srow.2 (by decide) hk_2_11_3_6_7_12_)
                have HO_2_11_3_6_7_12_ := Lib.hid (show OwnB w_2_11_3_6_7_12_ bb B2 n2 c2 en from rowKept HO_2_11_3_6_7_.out HL_2_11_3_6_7_.out.srow.2 (by decide) hk_2_11_3_6_7_12_)
                have hsz_2_11_3_6_7_12_ : wk.heap.size ≤ w_2_11_3_6_7_12_.heap.size := Nat.le_trans hsz_2_11_3_6_7_ (HSZ hk_2_11_3_6_7_12_ hb_2_11_3_6_7_12_)
                refine hK.out _ _ ?_ (fun hHeld => ?_)
                · exact ⟨_, HO_2_11_3_6_7_12_.out⟩
                clear hK K
                try simp only [Act.put, List.setIfInBounds_toArray, List.set_cons_zero, List.set_cons_succ, List.getElem_toArray, List.getElem_cons_zero, List.getElem_cons_succ]
                refine' wpAnyH_take (i := 13) (oi := _) (v := _) rfl (by kernel_rfl) (by kernel_rfl) (by kernel_rfl) (fun _ _ _ h => h) (Or.inl ⟨by rfl, ?hz33⟩) (by assumption) ?rezt33
                case hz33 => (intro w' hSw; (try dsimp only at hSw); go_simp; try with_reducible rfl)
                try simp only [Act.put, List.setIfInBounds_toArray, List.set_cons_zero, List.set_cons_succ, List.getElem_toArray, List.getElem_cons_zero, List.getElem_cons_succ]
                refine' wpAnyH_take (i := 14) (oi := _) (v := _) rfl (by kernel_rfl) (by kernel_rfl) (by kernel_rfl) (fun _ _ _ h => h) (Or.inl ⟨by rfl, ?hz34⟩) (by assumption) ?rezt34
                case hz34 => (intro w' hSw; (try dsimp only at hSw); go_simp; try with_reducible rfl)
                try simp only [Act.put, List.setIfInBounds_toArray, List.set_cons_zero, List.set_cons_succ, List.getElem_toArray, List.getElem_cons_zero, List.getElem_cons_succ]
                refine' wpAnyH_take (i := 15) (oi := _) (v := _) rfl (by kernel_rfl) (by kernel_rfl) (by kernel_rfl) (fun _ _ _ h => h) (Or.inl ⟨by rfl, ?hz35⟩) (by assumption) ?rezt35
                case hz35 => (intro w' hSw; (try dsimp only at hSw); go_simp; try with_reducible rfl)
                try simp only [Act.put, List.setIfInBounds_toArray, List.set_cons_zero, List.set_cons_succ, List.getElem_toArray, List.getElem_cons_zero, List.getElem_cons_succ]
                refine wpAnyH_done (by kernel_rfl) ?_ _
                have HR := Lib.hid (HREL.out _ _ _ _ _ _ _ HL_2_11_3_6_7_12_.out)
                go_wp2_with fail
                go_roundw
                case rel => exact HR.out
                case measure => simp [intOf]; omega
              · go_simp
                obtain ⟨w_2_11_6_, hw_2_11_6_⟩ : ∃ W, W = w_2_11_.alloc (.cells #[.slice D3 m3 d3] 22) := ⟨_, rfl⟩
                have hb_2_11_6_ : Below w_2_11_.heap.size w_2_11_ w_2_11_6_ := by rw [hw_2_11_6_]; exact (Below.refl _ _).alloc (Nat.le_refl _) _
                have HL_2_11_6_ := Lib.hid (HL_2_11_.out.keep hb_2_11_6_)
                have HY_2_11_6_ := Lib.hid (HY_2_11_.out.keep hb_2_11_6_)
                have HO_2_11_6_ := Lib.hid (HO_2_11_.out.keep hb_2_11_6_)
                have hsz_2_11_6_ : wk.heap.size ≤ w_2_11_6_.heap.size := Nat.le_trans hsz_2_11_ hb_2_11_6_.size
                have hl_2_11_6_ : w_2_11_.heap.size < w_2_11_6_.heap.size := by rw [hw_2_11_6_]; simp
                have HC_2_11_6_6 := Lib.hid (show w_2_11_6_.cell? ⟨w_2_11_.heap.size, 0, none⟩ = some (hdr y) by rw [hw_2_11_6_, heap_cell (heap_alloc_new _ _)]; exact congrArg some HYV.out)
                have HC_2_11_6_2 := Lib.hid ((hb_2_11_6_.cell (p := ⟨wd.heap.size, 0, none⟩) hg_2_11_2).trans HC_2_11_2.out)
                have hg_2_11_6_2 : wd.heap.size < w_2_11_6_.heap.size := Nat.lt_of_lt_of_le hg_2_11_2 hb_2_11_6_.size
                have HC_2_11_6_11 := Lib.hid ((hb_2_11_6_.cell (p := ⟨w_2_.heap.size, 0, none⟩) hl_2_11_).trans HC_2_11_11.out)
                have hg_2_11_6_11 : w_2_.heap.size < w_2_11_6_.heap.size := Nat.lt_of_lt_of_le hl_2_11_ hb_2_11_6_.size
                rw [← hw_2_11_6_]
                clear hw_2_11_6_
                refine hK.out _ _ ?_ (fun hHeld => ?_)
                · exact ⟨_, HO_2_11_6_.out⟩
                clear hK K
                try simp only [Act.put, List.setIfInBounds_toArray, List.set_cons_zero, List.set_cons_succ, List.getElem_toArray, List.getElem_cons_zero, List.getElem_cons_succ]
                refine wpAnyH_ready (rs := [3]) (by kernel_rfl) (by simp) ?_
                refine AllReadyH.cons (o := _) rfl (fun K hK => ?_) AllReadyH.nil
                refine step_append_g 44 22 _ 24 Try.underlying44 info_vs rfl (by decide) rfl (.tmp 96) (.tmp 98) rfl w.heap.size WA M.length wc (hdrC M) rfl HL_2_11_6_.out.wrow _ 1 1 (hdrC [x]) rfl rfl (.inr ⟨wd.heap.size, 0, rfl, by simp, fun i u hu => by
                  have hi : i = 0 := by have := (List.getElem?_eq_some_iff.1 hu).1; simp [hdrC, strC] at this; omega
                  subst hi
                  rw [← hu]
                  simpa [hdrC, strC, hdr] using HC_2_11_6_2.out⟩) (hdrC_one _) (by omega) HL_2_11_6_.out.sz ?_
                intro A_2_11_6_3_ c_2_11_6_3_ w_2_11_6_3_ ho_2_11_6_3_ hb_2_11_6_3_ hk_2_11_6_3_
                have HL_2_11_6_3_ := Lib.hid (HL_2_11_6_.out.addW HX0.out ho_2_11_6_3_ hb_2_11_6_3_ hk_2_11_6_3_)
                have HY_2_11_6_3_ := Lib.hid (HY_2_11_6_.out.kept HL_2_11_6_.out.wrow.2 (by decide) hk_2_11_6_3_)
                have HO_2_11_6_3_ := Lib.hid (show OwnB w_2_11_6_3_ bb B2 n2 c2 en from rowKept HO_2_11_6_.out HL_2_11_6_.out.wrow.2 (by decide) hk_2_11_6_3_)
                have hsz_2_11_6_3_ : wk.heap.size ≤ w_2_11_6_3_.heap.size := Nat.le_trans hsz_2_11_6_ (HSZ hk_2_11_6_3_ hb_2_11_6_3_)
                have HC_2_11_6_3_11 := Lib.hid (cellKept hk_2_11_6_3_ hg_2_11_6_11 (fun a ha e => by have := hWA a ha; omega) HC_2_11_6_11.out)
                have hg_2_11_6_3_11 : w_2_.heap.size < w_2_11_6_3_.heap.size := Nat.lt_of_lt_of_le hg_2_11_6_11 (HSZ hk_2_11_6_3_ hb_2_11_6_3_)
                have HC_2_11_6_3_6 := Lib.hid (cellKept hk_2_11_6_3_ hl_2_11_6_ (fun a ha e => by have := hWA a ha; omega) HC_2_11_6_6.out)
                have hg_2_11_6_3_6 : w_2_11_.heap.size < w_2_11_6_3_.heap.size := Nat.lt_of_lt_of_le hl_2_11_6_ (HSZ hk_2_11_6_3_ hb_2_11_6_3_)
                refine hK.out _ _ ?_ (fun hHeld => ?_)
                · exact ⟨_, HO_2_11_6_3_.out⟩
                clear hK K
                try simp only [Act.put, List.setIfInBounds_toArray, List.set_cons_zero, List.set_cons_succ, List.getElem_toArray, List.getElem_cons_zero, List.getElem_cons_succ]
                refine wpAnyH_ready (rs := [7]) (by kernel_rfl) (by simp) ?_
                refine AllReadyH.cons (o := _) rfl (fun K hK => ?_) AllReadyH.nil
                refine step_append_g 44 22 _ 24 Try.underlying44 info_vs rfl (by decide) rfl (.tmp 100) (.tmp 102) rfl w.heap.size IA N.length ic (hdrC N) rfl HL_2_11_6_3_.out.irow _ 1 1 (hdrC [y]) rfl rfl (.inr ⟨w_2_11_.heap.size, 0, rfl, by simp, fun i u hu => by
                  have hi : i = 0 := by have := (List.getElem?_eq_some_iff.1 hu).1; simp [hdrC, strC] at this; omega
                  subst hi
                  rw [← hu]
                  simpa [hdrC, strC, hdr] using HC_2_11_6_3_6.out⟩) (hdrC_one _) (by omega) HL_2_11_6_3_.out.sz ?_
                intro A_2_11_6_3_7_ c_2_11_6_3_7_ w_2_11_6_3_7_ ho_2_11_6_3_7_ hb_2_11_6_3_7_ hk_2_11_6_3_7_
                have HL_2_11_6_3_7_ := Lib.hid (HL_2_11_6_3_.out.addI HY_2_11_6_3_.out ho_2_11_6_3_7_ hb_2_11_6_3_7_ hk_2_11_6_3_7_)
                have HY_2_11_6_3_7_ := Lib.hid (HY_2_11_6_3_.out.kept HL_2_11_6_3_.out.irow.2 (by decide) hk_2_11_6_3_7_)
                have HO_2_11_6_3_7_ := Lib.hid (show OwnB w_2_11_6_3_7_ bb B2 n2 c2 en from rowKept HO_2_11_6_3_.out HL_2_11_6_3_.out.irow.2 (by decide) hk_2_11_6_3_7_)
                have hsz_2_11_6_3_7_ : wk.heap.size ≤ w_2_11_6_3_7_.heap.size := Nat.le_trans hsz_2_11_6_3_ (HSZ hk_2_11_6_3_7_ hb_2_11_6_3_7_)
                have HC_2_11_6_3_7_11 := Lib.hid (cellKept hk_2_11_6_3_7_ hg_2_11_6_3_11 (fun a ha e => by have := hIA a ha; omega) HC_2_11_6_3_11.out)
                have hg_2_11_6_3_7_11 : w_2_.heap.size < w_2_11_6_3_7_.heap.size := Nat.lt_of_lt_of_le hg_2_11_6_3_11 (HSZ hk_2_11_6_3_7_ hb_2_11_6_3_7_)
                refine hK.out _ _ ?_ (fun hHeld => ?_)
                · exact ⟨_, HO_2_11_6_3_7_.out⟩
                clear hK K
                try simp only [Act.put, List.setIfInBounds_toArray, List.set_cons_zero, List.set_cons_succ, List.getElem_toArray, List.getElem_cons_zero, List.getElem_cons_succ]
                refine wpAnyH_ready (rs := [12]) (by kernel_rfl) (by simp) ?_
                refine AllReadyH.cons (o := _) rfl (fun K hK => ?_) AllReadyH.nil
                refine step_append_g 47 9 _ 16 Try.underlying47 info_str rfl (by decide) rfl (.tmp 104) (.tmp 107) rfl w.heap.size SA S.length sc (strC S) rfl HL_2_11_6_3_7_.out.srow _ 1 1 (strC [en]) rfl rfl (.inr ⟨w_2_.heap.size, 0, rfl, by simp, fun i u hu => by
                  have hi : i = 0 := by have := (List.getElem?_eq_some_iff.1 hu).1; simp [hdrC, strC] at this; omega
                  subst hi
                  rw [← hu]
                  simpa [hdrC, strC, hdr] using HC_2_11_6_3_7_11.out⟩) (strC_one _) (by omega) HL_2_11_6_3_7_.out.sz ?_
                intro A_2_11_6_3_7_12_ c_2_11_6_3_7_12_ w_2_11_6_3_7_12_ ho_2_11_6_3_7_12_ hb_2_11_6_3_7_12_ hk_2_11_6_3_7_12_
                have HL_2_11_6_3_7_12_ := Lib.hid (HL_2_11_6_3_7_.out.addS ho_2_11_6_3_7_12_ hb_2_11_6_3_7_12_ hk_2_11_6_3_7_12_)
                have HY_2_11_6_3_7_12_ := Lib.hid (HY_2_11_6_3_7_.out.kept HL_2_11_6_3_7_.out.srow.2 (by decide) hk_2_11_6_3_7_12_)
                have HO_2_11_6_3_7_12_ := Lib.hid (show OwnB w_2_11_6_3_7_12_ bb B2 n2 c2 en from rowKept HO_2_11_6_3_7_.out HL_2_11_6_3_7_.out.srow.2 (by decide) hk_2_11_6_3_7_12_)
                have hsz_2_11_6_3_7_12_ : wk.heap.size ≤ w_2_11_6_3_7_12_.heap.size := Nat.le_trans hsz_2_11_6_3_7_ (HSZ hk_2_11_6_3_7_12_ hb_2_11_6_3_7_12_)
                refine hK.out _ _ ?_ (fun hHeld => ?_)
                · exact ⟨_, HO_2_11_6_3_7_12_.out⟩
                clear hK K
                try simp only [Act.put, List.setIfInBounds_toArray, List.set_cons_zero, List.set_cons_succ, List.getElem_toArray, List.getElem_cons_zero, List.getElem_cons_succ]
                refine' wpAnyH_take (i := 13) (oi := _) (v := _) rfl (by kernel_rfl) (by kernel_rfl) (by kernel_rfl) (fun _ _ _ h => h) (Or.inl ⟨by rfl, ?hz36⟩) (by assumption) ?rezt36
                case hz36 => (intro w' hSw; (try dsimp only at hSw); go_simp; try with_reducible rfl)
                try simp only [Act.put, List.setIfInBounds_toArray, List.set_cons_zero, List.set_cons_succ, List.getElem_toArray, List.getElem_cons_zero, List.getElem_cons_succ]
                refine' wpAnyH_take (i := 14) (oi := _) (v := _) rfl (by kernel_rfl) (by kernel_rfl) (by kernel_rfl) (fun _ _ _ h => h) (Or.inl ⟨by rfl, ?hz37⟩) (by assumption) ?rezt37
                case hz37 => (intro w' hSw; (try dsimp only at hSw); go_simp; try with_reducible rfl)
                try simp only [Act.put, List.setIfInBounds_toArray, List.set_cons_zero, List.set_cons_succ, List.getElem_toArray, List.getElem_cons_zero, List.getElem_cons_succ]
                refine' wpAnyH_take (i := 15) (oi := _) (v := _) rfl (by kernel_rfl) (by kernel_rfl) (by kernel_rfl) (fun _ _ _ h => h) (Or.inl ⟨by rfl, ?hz38⟩) (by assumption) ?rezt38
                case hz38 => (intro w' hSw; (try dsimp only at hSw); go_simp; try with_reducible rfl)
                try simp only [Act.put, List.setIfInBounds_toArray, List.set_cons_zero, List.set_cons_succ, List.getElem_toArray, List.getElem_cons_zero, List.getElem_cons_succ]
                refine wpAnyH_done (by kernel_rfl) ?_ _
                have HR := Lib.hid (HREL.out _ _ _ _ _ _ _ HL_2_11_6_3_7_12_.out)
                go_wp2_with fail
                go_roundw
                case rel => exact HR.out
                case measure => simp [intOf]; omega
          · go_simp
            obtain ⟨w_6_, hw_6_⟩ : ∃ W, W = wd.alloc (.cells #[.slice D3 m3 d3] 22) := ⟨_, rfl⟩
            have hb_6_ : Below wd.heap.size wd w_6_ := by rw [hw_6_]; exact (Below.refl _ _).alloc (Nat.le_refl _) _
            have HL_6_ := Lib.hid (HL_.out.keep hb_6_)
            have HY_6_ := Lib.hid (HY_.out.keep hb_6_)
            have HO_6_ := Lib.hid (HO_.out.keep hb_6_)
            have hsz_6_ : wk.heap.size ≤ w_6_.heap.size := Nat.le_trans hsz_ hb_6_.size
            have hl_6_ : wd.heap.size < w_6_.heap.size := by rw [hw_6_]; simp
            have HC_6_6 := Lib.hid (show w_6_.cell? ⟨wd.heap.size, 0, none⟩ = some (hdr y) by rw [hw_6_, heap_cell (heap_alloc_new _ _)]; exact congrArg some HYV.out)
            rw [← hw_6_]
            clear hw_6_
            refine hK.out _ _ ?_ (fun hHeld => ?_)
            · exact ⟨_, HO_6_.out⟩
            clear hK K
            try simp only [Act.put, List.setIfInBounds_toArray, List.set_cons_zero, List.set_cons_succ, List.getElem_toArray, List.getElem_cons_zero, List.getElem_cons_succ]
            refine wpAnyH_ready (rs := [2, 11]) (by kernel_rfl) (by simp) ?_
            refine AllReadyH.cons (o := _) rfl (fun K hK => ?_) (AllReadyH.cons (o := _) rfl (fun K hK => ?_) AllReadyH.nil)
            · go_simp
              obtain ⟨w_6_2_, hw_6_2_⟩ : ∃ W, W = w_6_.alloc (.cells #[.slice x.A x.n x.c] 22) := ⟨_, rfl⟩
              have hb_6_2_ : Below w_6_.heap.size w_6_ w_6_2_ := by rw [hw_6_2_]; exact (Below.refl _ _).alloc (Nat.le_refl _) _
              have HL_6_2_ := Lib.hid (HL_6_.out.keep hb_6_2_)
              have HY_6_2_ := Lib.hid (HY_6_.out.keep hb_6_2_)
              have HO_6_2_ := Lib.hid (HO_6_.out.keep hb_6_2_)
              have hsz_6_2_ : wk.heap.size ≤ w_6_2_.heap.size := Nat.le_trans hsz_6_ hb_6_2_.size
              have hl_6_2_ : w_6_.heap.size < w_6_2_.heap.size := by rw [hw_6_2_]; simp
              have HC_6_2_2 := Lib.hid (show w_6_2_.cell? ⟨w_6_.heap.size, 0, none⟩ = some (hdr x) by rw [hw_6_2_, heap_cell (heap_alloc_new _ _)]; exact rfl)
              have HC_6_2_6 := Lib.hid ((hb_6_2_.cell (p := ⟨wd.heap.size, 0, none⟩) hl_6_).trans HC_6_6.out)
              have hg_6_2_6 : wd.heap.size < w_6_2_.heap.size := Nat.lt_of_lt_of_le hl_6_ hb_6_2_.size
              rw [← hw_6_2_]
              clear hw_6_2_
              refine hK.out _ _ ?_ (fun hHeld => ?_)
              · exact ⟨_, HO_6_2_.out⟩
              clear hK K
              try simp only [Act.put, List.setIfInBounds_toArray, List.set_cons_zero, List.set_cons_succ, List.getElem_toArray, List.getElem_cons_zero, List.getElem_cons_succ]
              refine wpAnyH_ready (rs := [3, 11]) (by kernel_rfl) (by simp) ?_
              refine AllReadyH.cons (o := _) rfl (fun K hK => ?_) (AllReadyH.cons (o := _) rfl (fun K hK => ?_) AllReadyH.nil)
              · refine step_append_g 44 22 _ 24 Try.underlying44 info_vs rfl (by decide) rfl (.tmp 96) (.tmp 98) rfl w.heap.size WA M.length wc (hdrC M) rfl HL_6_2_.out.wrow _ 1 1 (hdrC [x]) rfl rfl (.inr ⟨w_6_.heap.size, 0, rfl, by simp, fun i u hu => by
                  have hi : i = 0 := by have := (List.getElem?_eq_some_iff.1 hu).1; simp [hdrC, strC] at this; omega
                  subst hi
                  rw [← hu]
                  simpa [hdrC, strC, hdr] using HC_6_2_2.out⟩) (hdrC_one _) (by omega) HL_6_2_.out.sz ?_
                intro A_6_2_3_ c_6_2_3_ w_6_2_3_ ho_6_2_3_ hb_6_2_3_ hk_6_2_3_
                have HL_6_2_3_ := Lib.hid (HL_6_2_.out.addW HX0.out ho_6_2_3_ hb_6_2_3_ hk_6_2_3_)
                have HY_6_2_3_ := Lib.hid (HY_6_2_.out.kept HL_6_2_.out.wrow.2 (by decide) hk_6_2_3_)
                have HO_6_2_3_ := Lib.hid (show OwnB w_6_2_3_ bb B2 n2 c2 en from rowKept HO_6_2_.out HL_6_2_.out.wrow.2 (by decide) hk_6_2_3_)
                have hsz_6_2_3_ : wk.heap.size ≤ w_6_2_3_.heap.size := Nat.le_trans hsz_6_2_ (HSZ hk_6_2_3_ hb_6_2_3_)
                have HC_6_2_3_6 := Lib.hid (cellKept hk_6_2_3_ hg_6_2_6 (fun a ha e => by have := hWA a ha; omega) HC_6_2_6.out)
                have hg_6_2_3_6 : wd.heap.size < w_6_2_3_.heap.size := Nat.lt_of_lt_of_le hg_6_2_6 (HSZ hk_6_2_3_ hb_6_2_3_)
                refine hK.out _ _ ?_ (fun hHeld => ?_)
                · exact ⟨_, HO_6_2_3_.out⟩
                clear hK K
                try simp only [Act.put, List.setIfInBounds_toArray, List.set_cons_zero, List.set_cons_succ, List.getElem_toArray, List.getElem_cons_zero, List.getElem_cons_succ]
                refine wpAnyH_ready (rs := [7, 11]) (by kernel_rfl) (by simp) ?_
                refine AllReadyH.cons (o := _) rfl (fun K hK => ?_) (AllReadyH.cons (o := _) rfl (fun K hK => ?_) AllReadyH.nil)
                · refine step_append_g 44 22 _ 24 Try.underlying44 info_vs rfl (by decide) rfl (.tmp 100) (.tmp 102) rfl w.heap.size IA N.length ic (hdrC N) rfl HL_6_2_3_.out.irow _ 1 1 (hdrC [y]) rfl rfl (.inr ⟨wd.heap.size, 0, rfl, by simp, fun i u hu => by
                    have hi : i = 0 := by have := (List.getElem?_eq_some_iff.1 hu).1; simp [hdrC, strC] at this; omega
                    subst hi
                    rw [← hu]
                    simpa [hdrC, strC, hdr] using HC_6_2_3_6.out⟩) (hdrC_one _) (by omega) HL_6_2_3_.out.sz ?_
                  intro A_6_2_3_7_ c_6_2_3_7_ w_6_2_3_7_ ho_6_2_3_7_ hb_6_2_3_7_ hk_6_2_3_7_
                  have HL_6_2_3_7_ := Lib.hid (HL_6_2_3_.out.addI HY_6_2_3_.out ho_6_2_3_7_ hb_6_2_3_7_ hk_6_2_3_7_)
                  have HY_6_2_3_7_ := Lib.hid (HY_6_2_3_.out.kept HL_6_2_3_.out.irow.2 (by decide) hk_6_2_3_7_)
                  have HO_6_2_3_7_ := Lib.hid (show OwnB w_6_2_3_7_ bb B2 n2 c2 en from rowKept HO_6_2_3_.out HL_6_2_3_.out.irow.2 (by decide) hk_6_2_3_7_)
                  have hsz_6_2_3_7_ : wk.heap.size ≤ w_6_2_3_7_.heap.size := Nat.le_trans hsz_6_2_3_ (HSZ hk_6_2_3_7_ hb_6_2_3_7_)
                  refine hK.out _ _ ?_ (fun hHeld => ?_)
                  · exact ⟨_, HO_6_2_3_7_.out⟩
                  clear hK K
                  try simp only [Act.put, List.setIfInBounds_toArray, List.set_cons_zero, List.set_cons_succ, List.getElem_toArray, List.getElem_cons_zero, List.getElem_cons_succ]
                  refine wpAnyH_ready (rs := [11]) (by kernel_rfl) (by simp) ?_
                  refine AllReadyH.cons (o := _) rfl (fun K hK => ?_) AllReadyH.nil
                  go_simp
                  obtain ⟨w_6_2_3_7_11_, hw_6_2_3_7_11_⟩ : ∃ W, W = w_6_2_3_7_.alloc (.cells #[.string (strOfNums en)] 9) := ⟨_, rfl⟩
                  have hb_6_2_3_7_11_ : Below w_6_2_3_7_.heap.size w_6_2_3_7_ w_6_2_3_7_11_ := by rw [hw_6_2_3_7_11_]; exact (Below.refl _ _).alloc (Nat.le_refl _) _
                  have HL_6_2_3_7_11_ := Lib.hid (HL_6_2_3_7_.out.keep hb_6_2_3_7_11_)
                  have HY_6_2_3_7_11_ := Lib.hid (HY_6_2_3_7_.out.keep hb_6_2_3_7_11_)
                  have HO_6_2_3_7_11_ := Lib.hid (HO_6_2_3_7_.out.keep hb_6_2_3_7_11_)
                  have hsz_6_2_3_7_11_ : wk.heap.size ≤ w_6_2_3_7_11_.heap.size := Nat.le_trans hsz_6_2_3_7_ hb_6_2_3_7_11_.size
                  have hl_6_2_3_7_11_ : w_6_2_3_7_.heap.size < w_6_2_3_7_11_.heap.size := by rw [hw_6_2_3_7_11_]; simp
                  have HC_6_2_3_7_11_11 := Lib.hid (show w_6_2_3_7_11_.cell? ⟨w_6_2_3_7_.heap.size, 0, none⟩ = some (.string (strOfNums en)) by rw [hw_6_2_3_7_11_, heap_cell (heap_alloc_new _ _)]; exact rfl)
                  rw [← hw_6_2_3_7_11_]
                  clear hw_6_2_3_7_11_
                  refine hK.out _ _ ?_ (fun hHeld => ?_)
                  · exact ⟨_, HO_6_2_3_7_11_.out⟩
                  clear hK K
                  try simp only [Act.put, List.setIfInBounds_toArray, List.set_cons_zero, List.set_cons_succ, List.getElem_toArray, List.getElem_cons_zero, List.getElem_cons_succ]
                  refine wpAnyH_ready (rs := [12]) (by kernel_rfl) (by simp) ?_
                  refine AllReadyH.cons (o := _) rfl (fun K hK => ?_) AllReadyH.nil
                  refine step_append_g 47 9 _ 16 Try.underlying47 info_str rfl (by decide) rfl (.tmp 104) (.tmp 107) rfl w.heap.size SA S.length sc (strC S) rfl HL_6_2_3_7_11_.out.srow _ 1 1 (strC [en]) rfl rfl (.inr ⟨w_6_2_3_7_.heap.size, 0, rfl, by simp, fun i u hu => by
                    have hi : i = 0 := by have := (List.getElem?_eq_some_iff.1 hu).1; simp [hdrC, strC] at this; omega
                    subst hi
                    rw [← hu]
                    simpa [hdrC, strC, hdr] using HC_6_2_3_7_11_11.out⟩) (strC_one _) (by omega) HL_6_2_3_7_11_.out.sz ?_
                  intro A_6_2_3_7_11_12_ c_6_2_3_7_11_12_ w_6_2_3_7_11_12_ ho_6_2_3_7_11_12_ hb_6_2_3_7_11_12_ hk_6_2_3_7_11_12_
                  have HL_6_2_3_7_11_12_ := Lib.hid (HL_6_2_3_7_11_.out.addS ho_6_2_3_7_11_12_ hb_6_2_3_7_11_12_ hk_6_2_3_7_11_12_)
                  have HY_6_2_3_7_11_12_ := Lib.hid (HY_6_2_3_7_11_.out.kept HL_6_2_3_7_11_.out.srow.2 (by decide) hk_6_2_3_7_11_12_)
                  have HO_6_2_3_7_11_12_ := Lib.hid (show OwnB w_6_2_3_7_11_12_ bb B2 n2 c2 en from rowKept HO_6_2_3_7_11_.out HL_6_2_3_7_11_.out.srow.2 (by decide) hk_6_2_3_7_11_12_)
                  have hsz_6_2_3_7_11_12_ : wk.heap.size ≤ w_6_2_3_7_11_12_.heap.size := Nat.le_trans hsz_6_2_3_7_11_ (HSZ hk_6_2_3_7_11_12_ hb_6_2_3_7_11_12_)
                  refine hK.out _ _ ?_ (fun hHeld => ?_)
                  · exact ⟨_, HO_6_2_3_7_11_12_.out⟩
                  clear hK K
                  try simp only [Act.put, List.setIfInBounds_toArray, List.set_cons_zero, List.set_cons_succ, List.getElem_toArray, List.getElem_cons_zero, List.getElem_cons_succ]
                  refine' wpAnyH_take (i := 13) (oi := _) (v := _) rfl (by kernel_rfl) (by kernel_rfl) (by kernel_rfl) (fun _ _ _ h => h) (Or.inl ⟨by rfl, ?hz39⟩) (by assumption) ?rezt39
                  case hz39 => (intro w' hSw; (try dsimp only at hSw); go_simp; try with_reducible rfl)
                  try simp only [Act.put, List.setIfInBounds_toArray, List.set_cons_zero, List.set_cons_succ, List.getElem_toArray, List.getElem_cons_zero, List.getElem_cons_succ]
                  refine' wpAnyH_take (i := 14) (oi := _) (v := _) rfl (by kernel_rfl) (by kernel_rfl) (by kernel_rfl) (fun _ _ _ h => h) (Or.inl ⟨by rfl, ?hz40⟩) (by assumption) ?rezt40
                  case hz40 => (intro w' hSw; (try dsimp only at hSw); go_simp; try with_reducible rfl)
                  try simp only [Act.put, List.setIfInBounds_toArray, List.set_cons_zero, List.set_cons_succ, List.getElem_toArray, List.getElem_cons_zero, List.getElem_cons_succ]
                  refine' wpAnyH_take (i := 15) (oi := _) (v := _) rfl (by kernel_rfl) (by kernel_rfl) (by kernel_rfl) (fun _ _ _ h => h) (Or.inl ⟨by rfl, ?hz41⟩) (by assumption) ?rezt41
                  case hz41 => (intro w' hSw; (try dsimp only at hSw); go_simp; try with_reducible rfl)
                  try simp only [Act.put, List.setIfInBounds_toArray, List.set_cons_zero, List.set_cons_succ, List.getElem_toArray, List.getElem_cons_zero, List.getElem_cons_succ]
                  refine wpAnyH_done (by kernel_rfl) ?_ _
                  have HR := Lib.hid (HREL.out _ _ _ _ _ _ _ HL_6_2_3_7_11_12_.out)
                  go_wp2_with fail
                  go_roundw
                  case rel => exact HR.out
                  case measure => simp [intOf]; omega
                · go_simp
                  obtain ⟨w_6_2_3_11_, hw_6_2_3_11_⟩ : ∃ W, W = w_6_2_3_.alloc (.cells #[.string (strOfNums en)] 9) := ⟨_, rfl⟩
                  have hb_6_2_3_11_ : Below w_6_2_3_.heap.size w_6_2_3_ w_6_2_3_11_ := by rw [hw_6_2_3_11_]; exact (Below.refl _ _).alloc (Nat.le_refl _) _
                  have HL_6_2_3_11_ := Lib.hid (HL_6_2_3_.out.keep hb_6_2_3_11_)
                  have HY_6_2_3_11_ := Lib.hid (HY_6_2_3_.out.keep hb_6_2_3_11_)
                  have HO_6_2_3_11_ := Lib.hid (HO_6_2_3_.out.keep hb_6_2_3_11_)
                  have hsz_6_2_3_11_ : wk.heap.size ≤ w_6_2_3_11_.heap.size := Nat.le_trans hsz_6_2_3_ hb_6_2_3_11_.size
                  have hl_6_2_3_11_ : w_6_2_3_.heap.size < w_6_2_3_11_.heap.size := by rw [hw_6_2_3_11_]; simp
                  have HC_6_2_3_11_11 := Lib.hid (show w_6_2_3_11_.cell? ⟨w_6_2_3_.heap.size, 0, none⟩ = some (.string (strOfNums en)) by rw [hw_6_2_3_11_, heap_cell (heap_alloc_new _ _)]; exact rfl)
                  have HC_6_2_3_11_6 := Lib.hid ((hb_6_2_3_11_.cell (p := ⟨wd.heap.size, 0, none⟩) hg_6_2_3_6).trans HC_6_2_3_6.out)
                  have hg_6_2_3_11_6 : wd.heap.size < w_6_2_3_11_.heap.size := Nat.lt_of_lt_of_le hg_6_2_3_6 hb_6_2_3_11_.size
                  rw [← hw_6_2_3_11_]
                  clear hw_6_2_3_11_
                  refine hK.out _ _ ?_ (fun hHeld => ?_)
                  · exact ⟨_, HO_6_2_3_11_.out⟩
                  clear hK K
                  try simp only [Act.put, List.setIfInBounds_toArray, List.set_cons_zero, List.set_cons_succ, List.getElem_toArray, List.getElem_cons_zero, List.getElem_cons_succ]
                  refine wpAnyH_ready (rs := [7]) (by kernel_rfl) (by simp) ?_
                  refine AllReadyH.cons (o := _) rfl (fun K hK => ?_) AllReadyH.nil
                  refine step_append_g 44 22 _ 24 Try.underlying44 info_vs rfl (by decide) rfl (.tmp 100) (.tmp 102) rfl w.heap.size IA N.length ic (hdrC N) rfl HL_6_2_3_11_.out.irow _ 1 1 (hdrC [y]) rfl rfl (.inr ⟨wd.heap.size, 0, rfl, by simp, fun i u hu => by
                    have hi : i = 0 := by have := (List.getElem?_eq_some_iff.1 hu).1; simp [hdrC, strC] at this; omega
                    subst hi
                    rw [← hu]
                    simpa [hdrC, strC, hdr] using HC_6_2_3_11_6.out⟩) (hdrC_one _) (by omega) HL_6_2_3_11_.out.sz ?_
                  intro A_6_2_3_11_7_ c_6_2_3_11_7_ w_6_2_3_11_7_ ho_6_2_3_11_7_ hb_6_2_3_11_7_ hk_6_2_3_11_7_
                  have HL_6_2_3_11_7_ := Lib.hid (HL_6_2_3_11_.out.addI HY_6_2_3_11_.out ho_6_2_3_11_7_ hb_6_2_3_11_7_ hk_6_2_3_11_7_)
                  have HY_6_2_3_11_7_ := Lib.hid (HY_6_2_3_11_.out.kept HL_6_2_3_11_.out.irow.2 (by decide) hk_6_2_3_11_7_)
                  have HO_6_2_3_11_7_ := Lib.hid (show OwnB w_6_2_3_11_7_ bb B2 n2 c2 en from rowKept HO_6_2_3_11_.out HL_6_2_3_11_.out.irow.2 (by decide) hk_6_2_3_11_7_)
                  have hsz_6_2_3_11_7_ : wk.heap.size ≤ w_6_2_3_11_7_.heap.size := Nat.le_trans hsz_6_2_3_11_ (HSZ hk_6_2_3_11_7_ hb_6_2_3_11_7_)
                  have HC_6_2_3_11_7_11 := Lib.hid (cellKept hk_6_2_3_11_7_ hl_6_2_3_11_ (fun a ha e => by have := hIA a ha; omega) HC_6_2_3_11_11.out)
                  have hg_6_2_3_11_7_11 : w_6_2_3_.heap.size < w_6_2_3_11_7_.heap.size := Nat.lt_of_lt_of_le hl_6_2_3_11_ (HSZ hk_6_2_3_11_7_ hb_6_2_3_11_7_)
                  refine hK.out _ _ ?_ (fun hHeld => ?_)
                  · exact ⟨_, HO_6_2_3_11_7_.out⟩
                  clear hK K
                  try simp only [Act.put, List.setIfInBounds_toArray, List.set_cons_zero, List.set_cons_succ, List.getElem_toArray, List.getElem_cons_zero, List.getElem_cons_succ]
                  refine wpAnyH_ready (rs := [12]) (by kernel_rfl) (by simp) ?_
                  refine AllReadyH.cons (o := _) rfl (fun K hK => ?_) AllReadyH.nil
                  refine step_append_g 47 9 _ 16 Try.underlying47 info_str rfl (by decide) rfl (.tmp 104) (.tmp 107) rfl w.heap.size SA S.length sc (strC S) rfl HL_6_2_3_11_7_.out.srow _ 1 1 (strC [en]) rfl rfl (.inr ⟨w_6_2_3_.heap.size, 0, rfl, by simp, fun i u hu => by
                    have hi : i = 0 := by have := (List.getElem?_eq_some_iff.1 hu).1; simp [hdrC, strC] at this; omega
                    subst hi
                    rw [← hu]
                    simpa [hdrC, strC, hdr] using HC_6_2_3_11_7_11.out⟩) (strC_one _) (by omega) HL_6_2_3_11_7_.out.sz ?_
                  intro A_6_2_3_11_7_12_ c_6_2_3_11_7_12_ w_6_2_3_11_7_12_ ho_6_2_3_11_7_12_ hb_6_2_3_11_7_12_ hk_6_2_3_11_7_12_
                  have HL_6_2_3_11_7_12_ := Lib.hid (HL_6_2_3_11_7_.out.addS ho_6_2_3_11_7_12_ hb_6_2_3_11_7_12_ hk_6_2_3_11_7_12_)
                  have HY_6_2_3_11_7_12_ := Lib.hid (HY_6_2_3_11_7_.out.kept HL_6_2_3_11_7_.out.srow.2 (by decide) hk_6_2_3_11_7_12_)
                  have HO_6_2_3_11_7_12_ := Lib.hid (show OwnB w_6_2_3_11_7_12_ bb B2 n2 c2 en from rowKept HO_6_2_3_11_7_.out HL_6_2_3_11_7_.out.srow.2 (by decide) hk_6_2_3_11_7_12_)
                  have hsz_6_2_3_11_7_12_ : wk.heap.size ≤ w_6_2_3_11_7_12_.heap.size := Nat.le_trans hsz_6_2_3_11_7_ (HSZ hk_6_2_3_11_7_12_ hb_6_2_3_11_7_12_)
                  refine hK.out _ _ ?_ (fun hHeld => ?_)
                  · exact ⟨_, HO_6_2_3_11_7_12_.out⟩
                  clear hK K
                  try simp only [Act.put, List.setIfInBounds_toArray, List.set_cons_zero, List.set_cons_succ, List.getElem_toArray, List.getElem_cons_zero, List.getElem_cons_succ]
                  refine' wpAnyH_take (i := 13) (oi := _) (v := _) rfl (by kernel_rfl) (by kernel_rfl) (by kernel_rfl) (fun _ _ _ h => h) (Or.inl ⟨by rfl, ?hz42⟩) (by assumption) ?rezt42
                  case hz42 => (intro w' hSw; (try dsimp only at hSw); go_simp; try with_reducible rfl)
                  try simp only [Act.put, List.setIfInBounds_toArray, List.set_cons_zero, List.set_cons_succ, List.getElem_toArray, List.getElem_cons_zero, List.getElem_cons_succ]
                  refine' wpAnyH_take (i := 14) (oi := _) (v := _) rfl (by kernel_rfl) (by kernel_rfl) (by kernel_rfl) (fun _ _ _ h => h) (Or.inl ⟨by rfl, ?hz43⟩) (by assumption) ?rezt43
                  case hz43 => (intro w' hSw; (try dsimp only at hSw); go_simp; try with_reducible rfl)
                  try simp only [Act.put, List.setIfInBounds_toArray, List.set_cons_zero, List.set_cons_succ, List.getElem_toArray, List.getElem_cons_zero, List.getElem_cons_succ]
                  refine' wpAnyH_take (i := 15) (oi := _) (v := _) rfl (by kernel_rfl) (by kernel_rfl) (by kernel_rfl) (fun _ _ _ h => h) (Or.inl ⟨by rfl, ?hz44⟩) (by assumption) ?rezt44
                  case hz44 => (intro w' hSw; (try dsimp only at hSw); go_simp; try with_reducible rfl)
                  try simp only [Act.put, List.setIfInBounds_toArray, List.set_cons_zero, List.set_cons_succ, List.getElem_toArray, List.getElem_cons_zero, List.getElem_cons_succ]
                  refine wpAnyH_done (by kernel_rfl) ?_ _
                  have HR := Lib.hid (HREL.out _ _ _ _ _ _ _ HL_6_2_3_11_7_12_.out)
                  go_wp2_with fail
                  go_roundw
                  case rel => exact HR.out
                  case measure => simp [intOf]; omega
              · go_simp
                obtain ⟨w_6_2_11_, hw_6_2_11_⟩ : ∃ W, W = w_6_2_.alloc (.cells #[.string (strOfNums en)] 9) := ⟨_, rfl⟩
                have hb_6_2_11_ : Below w_6_2_.heap.size w_6_2_ w_6_2_11_ := by rw [hw_6_2_11_]; exact (Below.refl _ _).alloc (Nat.le_refl _) _
                have HL_6_2_11_ := Lib.hid (HL_6_2_.out.keep hb_6_2_11_)
                have HY_6_2_11_ := Lib.hid (HY_6_2_.out.keep hb_6_2_11_)
                have HO_6_2_11_ := Lib.hid (HO_6_2_.out.keep hb_6_2_11_)
                have hsz_6_2_11_ : wk.heap.size ≤ w_6_2_11_.heap.size := Nat.le_trans hsz_6_2_ hb_6_2_11_.size
                have hl_6_2_11_ : w_6_2_.heap.size < w_6_2_11_.heap.size := by rw [hw_6_2_11_]; simp
                have HC_6_2_11_11 := Lib.hid (show w_6_2_11_.cell? ⟨w_6_2_.heap.size, 0, none⟩ = some (.string (strOfNums en)) by rw [hw_6_2_11_, heap_cell (heap_alloc_new _ _)]; exact rfl)
                have HC_6_2_11_6 := Lib.hid ((hb_6_2_11_.cell (p := ⟨wd.heap.size, 0, none⟩) hg_6_2_6).trans HC_6_2_6.out)
                have hg_6_2_11_6 : wd.heap.size < w_6_2_11_.heap.size := Nat.lt_of_lt_of_le hg_6_2_6 hb_6_2_11_.size
                have HC_6_2_11_2 := Lib.hid ((hb_6_2_11_.cell (p := ⟨w_6_.heap.size, 0, none⟩) hl_6_2_).trans HC_6_2_2.out)
                have hg_6_2_11_2 : w_6_.heap.size < w_6_2_11_.heap.size := Nat.lt_of_lt_of_le hl_6_2_ hb_6_2_11_.size
                rw [← hw_6_2_11_]
                clear hw_6_2_11_
                refine hK.out _ _ ?_ (fun hHeld => ?_)
                · exact ⟨_, HO_6_2_11_.out⟩
                clear hK K
                try simp only [Act.put, List.setIfInBounds_toArray, List.set_cons_zero, List.set_cons_succ, List.getElem_toArray, List.getElem_cons_zero, List.getElem_cons_succ]
                refine wpAnyH_ready (rs := [3]) (by kernel_rfl) (by simp) ?_
                refine AllReadyH.cons (o := _) rfl (fun K hK => ?_) AllReadyH.nil
                refine step_append_g 44 22 _ 24 Try.underlying44 info_vs rfl (by decide) rfl (.tmp 96) (.tmp 98) rfl w.heap.size WA M.length wc (hdrC M) rfl HL_6_2_11_.out.wrow _ 1 1 (hdrC [x]) rfl rfl (.inr ⟨w_6_.heap.size, 0, rfl, by simp, fun i u hu => by
                  have hi : i = 0 := by have := (List.getElem?_eq_some_iff.1 hu).1; simp [hdrC, strC] at this; omega
                  subst hi
                  rw [← hu]
                  simpa [hdrC, strC, hdr] using HC_6_2_11_2.out⟩) (hdrC_one _) (by omega) HL_6_2_11_.out.sz ?_
                intro A_6_2_11_3_ c_6_2_11_3_ w_6_2_11_3_ ho_6_2_11_3_ hb_6_2_11_3_ hk_6_2_11_3_
                have HL_6_2_11_3_ := Lib.hid (HL_6_2_11_.out.addW HX0.out ho_6_2_11_3_ hb_6_2_11_3_ hk_6_2_11_3_)
                have HY_6_2_11_3_ := Lib.hid (HY_6_2_11_.out.kept HL_6_2_11_.out.wrow.2 (by decide) hk_6_2_11_3_)
                have HO_6_2_11_3_ := Lib.hid (show OwnB w_6_2_11_3_ bb B2 n2 c2 en from rowKept HO_6_2_11_.out HL_6_2_11_.out.wrow.2 (by decide) hk_6_2_11_3_)
                have hsz_6_2_11_3_ : wk.heap.size ≤ w_6_2_11_3_.heap.size := Nat.le_trans hsz_6_2_11_ (HSZ hk_6_2_11_3_ hb_6_2_11_3_)
                have HC_6_2_11_3_6 := Lib.hid (cellKept hk_6_2_11_3_ hg_6_2_11_6 (fun a ha e => by have := hWA a ha; omega) HC_6_2_11_6.out)
                have hg_6_2_11_3_6 : wd.heap.size < w_6_2_11_3_.heap.size := Nat.lt_of_lt_of_le hg_6_2_11_6 (HSZ hk_6_2_11_3_ hb_6_2_11_3_)
                have HC_6_2_11_3_11 := Lib.hid (cellKept hk_6_2_11_3_ hl_6_2_11_ (fun a ha e => by have := hWA a ha; omega) HC_6_2_11_11.out)
                have hg_6_2_11_3_11 : w_6_2_.heap.size < w_6_2_11_3_.heap.size := Nat.lt_of_lt_of_le hl_6_2_11_ (HSZ hk_6_2_11_3_ hb_6_2_11_3_)
                refine hK.out _ _ ?_ (fun hHeld => ?_)
                · exact ⟨_, HO_6_2_11_3_.out⟩
                clear hK K
                try simp only [Act.put, List.setIfInBounds_toArray, List.set_cons_zero, List.set_cons_succ, List.getElem_toArray, List.getElem_cons_zero, List.getElem_cons_succ]
                refine wpAnyH_ready (rs := [7]) (by kernel_rfl) (by simp) ?_
                refine AllReadyH.cons (o := _) rfl (fun K hK => ?_) AllReadyH.nil
                refine step_append_g 44 22 _ 24 Try.underlying44 info_vs rfl (by decide) rfl (.tmp 100) (.tmp 102) rfl w.heap.size IA N.length ic (hdrC N) rfl HL_6_2_11_3_.out.irow _ 1 1 (hdrC [y]) rfl rfl (.inr ⟨wd.heap.size, 0, rfl, by simp, fun i u hu => by
                  have hi : i = 0 := by have := (List.getElem?_eq_some_iff.1 hu).1; simp [hdrC, strC] at this; omega
                  subst hi
                  rw [← hu]
                  simpa [hdrC, strC, hdr] using HC_6_2_11_3_6.out⟩) (hdrC_one _) (by omega) HL_6_2_11_3_.out.sz ?_
                intro A_6_2_11_3_7_ c_6_2_11_3_7_ w_6_2_11_3_7_ ho_6_2_11_3_7_ hb_6_2_11_3_7_ hk_6_2_11_3_7_
                have HL_6_2_11_3_7_ := Lib.hid (HL_6_2_11_3_.out.addI HY_6_2_11_3_.out ho_6_2_11_3_7_ hb_6_2_11_3_7_ hk_6_2_11_3_7_)
                have HY_6_2_11_3_7_ := Lib.hid (HY_6_2_11_3_.out.kept HL_6_2_11_3_.out.irow.2 (by decide) hk_6_2_11_3_7_)
                have HO_6_2_11_3_7_ := Lib.hid (show OwnB w_6_2_11_3_7_ bb B2 n2 c2 en from rowKept HO_6_2_11_3_.out HL_6_2_11_3_.out.irow.2 (by decide) hk_6_2_11_3_7_)
                have hsz_6_2_11_3_7_ : wk.heap.size ≤ w_6_2_11_3_7_.heap.size := Nat.le_trans hsz_6_2_11_3_ (HSZ hk_6_2_11_3_7_ hb_6_2_11_3_7_)
                have HC_6_2_11_3_7_11 := Lib.hid (cellKept hk_6_2_11_3_7_ hg_6_2_11_3_11 (fun a ha e => by have := hIA a ha; omega) HC_6_2_11_3_11.out)
                have hg_6_2_11_3_7_11 : w_6_2_.heap.size < w_6_2_11_3_7_.heap.size := Nat.lt_of_lt_of_le hg_6_2_11_3_11 (HSZ hk_6_2_11_3_7_ hb_6_2_11_3_7_)
                refine hK.out _ _ ?_ (fun hHeld => ?_)
                · exact ⟨_, HO_6_2_11_3_7_.out⟩
                clear hK K
                try simp only [Act.put, List.setIfInBounds_toArray, List.set_cons_zero, List.set_cons_succ, List.getElem_toArray, List.getElem_cons_zero, List.getElem_cons_succ]
                refine wpAnyH_ready (rs := [12]) (by kernel_rfl) (by simp) ?_
                refine AllReadyH.cons (o := _) rfl (fun K hK => ?_) AllReadyH.nil
                refine step_append_g 47 9 _ 16 Try.underlying47 info_str rfl (by decide) rfl (.tmp 104) (.tmp 107) rfl w.heap.size SA S.length sc (strC S) rfl HL_6_2_11_3_7_.out.srow _ 1 1 (strC [en]) rfl rfl (.inr ⟨w_6_2_.heap.size, 0, rfl, by simp, fun i u hu => by
                  have hi : i = 0 := by have := (List.getElem?_eq_some_iff.1 hu).1; simp [hdrC, strC] at this; omega
                  subst hi
                  rw [← hu]
                  simpa [hdrC, strC, hdr] using HC_6_2_11_3_7_11.out⟩) (strC_one _) (by omega) HL_6_2_11_3_7_.out.sz ?_
                intro A_6_2_11_3_7_12_ c_6_2_11_3_7_12_ w_6_2_11_3_7_12_ ho_6_2_11_3_7_12_ hb_6_2_11_3_7_12_ hk_6_2_11_3_7_12_
                have HL_6_2_11_3_7_12_ := Lib.hid (HL_6_2_11_3_7_.out.addS ho_6_2_11_3_7_12_ hb_6_2_11_3_7_12_ hk_6_2_11_3_7_12_)
                have HY_6_2_11_3_7_12_ := Lib.hid (HY_6_2_11_3_7_.out.kept HL_6_2_11_3_7_.out.srow.2 (by decide) hk_6_2_11_3_7_12_)
                have HO_6_2_11_3_7_12_ := Lib.hid (show OwnB w_6_2_11_3_7_12_ bb B2 n2 c2 en from rowKept HO_6_2_11_3_7_.out HL_6_2_11_3_7_.out.srow.2 (by decide) hk_6_2_11_3_7_12_)
                have hsz_6_2_11_3_7_12_ : wk.heap.size ≤ w_6_2_11_3_7_12_.heap.size := Nat.le_trans hsz_6_2_11_3_7_ (HSZ hk_6_2_11_3_7_12_ hb_6_2_11_3_7_12_)
                refine hK.out _ _ ?_ (fun hHeld => ?_)
                · exact ⟨_, HO_6_2_11_3_7_12_.out⟩
                clear hK K
                try simp only [Act.put, List.setIfInBounds_toArray, List.set_cons_zero, List.set_cons_succ, List.getElem_toArray, List.getElem_cons_zero, List.getElem_cons_succ]
                refine' wpAnyH_take (i := 13) (oi := _) (v := _) rfl (by kernel_rfl) (by kernel_rfl) (by kernel_rfl) (fun _ _ _ h => h) (Or.inl ⟨by rfl, ?hz45⟩) (by assumption) ?rezt45
                case hz45 => (intro w' hSw; (try dsimp only at hSw); go_simp; try with_reducible rfl)
                try simp only [Act.put, List.setIfInBounds_toArray, List.set_cons_zero, List.set_cons_succ, List.getElem_toArray, List.getElem_cons_zero, List.getElem_cons_succ]
                refine' wpAnyH_take (i := 14) (oi := _) (v := _) rfl (by kernel_rfl) (by kernel_rfl) (by kernel_rfl) (fun _ _ _ h => h) (Or.inl ⟨by rfl, ?hz46⟩) (by assumption) ?rezt46
                case hz46 => (intro w' hSw; (try dsimp only at hSw); go_simp; try with_reducible rfl)
                try simp only [Act.put, List.setIfInBounds_toArray, List.set_cons_zero, List.set_cons_succ, List.getElem_toArray, List.getElem_cons_zero, List.getElem_cons_succ]
                refine' wpAnyH_take (i := 15) (oi := _) (v := _) rfl (by kernel_rfl) (by kernel_rfl) (by kernel_rfl) (fun _ _ _ h => h) (Or.inl ⟨by rfl, ?hz47⟩) (by assumption) ?rezt47
                case hz47 => (intro w' hSw; (try dsimp only at hSw); go_simp; try with_reducible rfl)
                try simp only [Act.put, List.setIfInBounds_toArray, List.set_cons_zero, List.set_cons_succ, List.getElem_toArray, List.getElem_cons_zero, List.getElem_cons_succ]
                refine wpAnyH_done (by kernel_rfl) ?_ _
                have HR := Lib.hid (HREL.out _ _ _ _ _ _ _ HL_6_2_11_3_7_12_.out)
                go_wp2_with fail
                go_roundw
                case rel => exact HR.out
                case measure => simp [intOf]; omega
            · go_simp
              obtain ⟨w_6_11_, hw_6_11_⟩ : ∃ W, W = w_6_.alloc (.cells #[.string (strOfNums en)] 9) := ⟨_, rfl⟩
              have hb_6_11_ : Below w_6_.heap.size w_6_ w_6_11_ := by rw [hw_6_11_]; exact (Below.refl _ _).alloc (Nat.le_refl _) _
              have HL_6_11_ := Lib.hid (HL_6_.out.keep hb_6_11_)
              have HY_6_11_ := Lib.hid (HY_6_.out.keep hb_6_11_)
              have HO_6_11_ := Lib.hid (HO_6_.out.keep hb_6_11_)
              have hsz_6_11_ : wk.heap.size ≤ w_6_11_.heap.size := Nat.le_trans hsz_6_ hb_6_11_.size
              have hl_6_11_ : w_6_.heap.size < w_6_11_.heap.size := by rw [hw_6_11_]; simp
              have HC_6_11_11 := Lib.hid (show w_6_11_.cell? ⟨w_6_.heap.size, 0, none⟩ = some (.string (strOfNums en)) by rw [hw_6_11_, heap_cell (heap_alloc_new _ _)]; exact rfl)
              have HC_6_11_6 := Lib.hid ((hb_6_11_.cell (p := ⟨wd.heap.size, 0, none⟩) hl_6_).trans HC_6_6.out)
              have hg_6_11_6 : wd.heap.size < w_6_11_.heap.size := Nat.lt_of_lt_of_le hl_6_ hb_6_11_.size
              rw [← hw_6_11_]
              clear hw_6_11_
              refine hK.out _ _ ?_ (fun hHeld => ?_)
              · exact ⟨_, HO_6_11_.out⟩
              clear hK K
              try simp only [Act.put, List.setIfInBounds_toArray, List.set_cons_zero, List.set_cons_succ, List.getElem_toArray, List.getElem_cons_zero, List.getElem_cons_succ]
              refine wpAnyH_ready (rs := [2]) (by kernel_rfl) (by simp) ?_
              refine AllReadyH.cons (o := _) rfl (fun K hK => ?_) AllReadyH.nil
              go_simp
              obtain ⟨w_6_11_2_, hw_6_11_2_⟩ : ∃ W, W = w_6_11_.alloc (.cells #[.slice x.A x.n x.c] 22) := ⟨_, rfl⟩
              have hb_6_11_2_ : Below w_6_11_.heap.size w_6_11_ w_6_11_2_ := by rw [hw_6_11_2_]; exact (Below.refl _ _).alloc (Nat.le_refl _) _
              have HL_6_11_2_ := Lib.hid (HL_6_11_.out.keep hb_6_11_2_)
              have HY_6_11_2_ := Lib.hid (HY_6_11_.out.keep hb_6_11_2_)
              have HO_6_11_2_ := Lib.hid (HO_6_11_.out.keep hb_6_11_2_)
              have hsz_6_11_2_ : wk.heap.size ≤ w_6_11_2_.heap.size := Nat.le_trans hsz_6_11_ hb_6_11_2_.size
              have hl_6_11_2_ : w_6_11_.heap.size < w_6_11_2_.heap.size := by rw [hw_6_11_2_]; simp
              have HC_6_11_2_2 := Lib.hid (show w_6_11_2_.cell? ⟨w_6_11_.heap.size, 0, none⟩ = some (hdr x) by rw [hw_6_11_2_, heap_cell (heap_alloc_new _ _)]; exact rfl)
              have HC_6_11_2_6 := Lib.hid ((hb_6_11_2_.cell (p := ⟨wd.heap.size, 0, none⟩) hg_6_11_6).trans HC_6_11_6.out)
              have hg_6_11_2_6 : wd.heap.size < w_6_11_2_.heap.size := Nat.lt_of_lt_of_le hg_6_11_6 hb_6_11_2_.size
              have HC_6_11_2_11 := Lib.hid ((hb_6_11_2_.cell (p := ⟨w_6_.heap.size, 0, none⟩) hl_6_11_).trans HC_6_11_11.out)
              have hg_6_11_2_11 : w_6_.heap.size < w_6_11_2_.heap.size := Nat.lt_of_lt_of_le hl_6_11_ hb_6_11_2_.size
              rw [← hw_6_11_2_]
              clear hw_6_11_2_
              refine hK.out _ _ ?_ (fun hHeld => ?_)
              · exact ⟨_, HO_6_11_2_.out⟩
              clear hK K
              try simp only [Act.put, List.setIfInBounds_toArray, List.set_cons_zero, List.set_cons_succ, List.getElem_toArray, List.getElem_cons_zero, List.getElem_cons_succ]
              refine wpAnyH_ready (rs := [3]) (by kernel_rfl) (by simp) ?_
              refine AllReadyH.cons (o := _) rfl (fun K hK => ?_) AllReadyH.nil
              refine step_append_g 44 22 _ 24 Try.underlying44 info_vs rfl (by decide) rfl (.tmp 96) (.tmp 98) rfl w.heap.size WA M.length wc (hdrC M) rfl HL_6_11_2_.out.wrow _ 1 1 (hdrC [x]) rfl rfl (.inr ⟨w_6_11_.heap.size, 0, rfl, by simp, fun i u hu => by
                have hi : i = 0 := by have := (List.getElem?_eq_some_iff.1 hu).1; simp [hdrC, strC] at this; omega
                subst hi
                rw [← hu]
                simpa [hdrC, strC, hdr] using HC_6_11_2_2.out⟩) (hdrC_one _) (by omega) HL_6_11_2_.out.sz ?_
              intro A_6_11_2_3_ c_6_11_2_3_ w_6_11_2_3_ ho_6_11_2_3_ hb_6_11_2_3_ hk_6_11_2_3_
              have HL_6_11_2_3_ := Lib.hid (HL_6_11_2_.out.addW HX0.out ho_6_11_2_3_ hb_6_11_2_3_ hk_6_11_2_3_)
              have HY_6_11_2_3_ := Lib.hid (HY_6_11_2_.out.kept HL_6_11_2_.out.wrow.2 (by decide) hk_6_11_2_3_)
              have HO_6_11_2_3_ := Lib.hid (show OwnB w_6_11_2_3_ bb B2 n2 c2 en from rowKept HO_6_11_2_.out HL_6_11_2_.out.wrow.2 (by decide) hk_6_11_2_3_)
              have hsz_6_11_2_3_ : wk.heap.size ≤ w_6_11_2_3_.heap.size := Nat.le_trans hsz_6_11_2_ (HSZ hk_6_11_2_3_ hb_6_11_2_3_)
              have HC_6_11_2_3_6 := Lib.hid (cellKept hk_6_11_2_3_ hg_6_11_2_6 (fun a ha e => by have := hWA a ha; omega) HC_6_11_2_6.out)
              have hg_6_11_2_3_6 : wd.heap.size < w_6_11_2_3_.heap.size := Nat.lt_of_lt_of_le hg_6_11_2_6 (HSZ hk_6_11_2_3_ hb_6_11_2_3_)
              have HC_6_11_2_3_11 := Lib.hid (cellKept hk_6_11_2_3_ hg_6_11_2_11 (fun a ha e => by have := hWA a ha; omega) HC_6_11_2_11.out)
              have hg_6_11_2_3_11 : w_6_.heap.size < w_6_11_2_3_.heap.size := Nat.lt_of_lt_of_le hg_6_11_2_11 (HSZ hk_6_11_2_3_ hb_6_11_2_3_)
              refine hK.out _ _ ?_ (fun hHeld => ?_)
              · exact ⟨_, HO_6_11_2_3_.out⟩
              clear hK K
              try simp only [Act.put, List.setIfInBounds_toArray, List.set_cons_zero, List.set_cons_succ, List.getElem_toArray, List.getElem_cons_zero, List.getElem_cons_succ]
              refine wpAnyH_ready (rs := [7]) (by kernel_rfl) (by simp) ?_
              refine AllReadyH.cons (o := _) rfl (fun K hK => ?_) AllReadyH.nil
              refine step_append_g 44 22 _ 24 Try.underlying44 info_vs rfl (by decide) rfl (.tmp 100) (.tmp 102) rfl w.heap.size IA N.length ic (hdrC N) rfl HL_6_11_2_3_.out.irow _ 1 1 (hdrC [y]) rfl rfl (.inr ⟨wd.heap.size, 0, rfl, by simp, fun i u hu => by
                have hi : i = 0 := by have := (List.getElem?_eq_some_iff.1 hu).1; simp [hdrC, strC] at this; omega
                subst hi
                rw [← hu]
                simpa [hdrC, strC, hdr] using HC_6_11_2_3_6.out⟩) (hdrC_one _) (by omega) HL_6_11_2_3_.out.sz ?_
              intro A_6_11_2_3_7_ c_6_11_2_3_7_ w_6_11_2_3_7_ ho_6_11_2_3_7_ hb_6_11_2_3_7_ hk_6_11_2_3_7_
              have HL_6_11_2_3_7_ := Lib.hid (HL_6_11_2_3_.out.addI HY_6_11_2_3_.out ho_6_11_2_3_7_ hb_6_11_2_3_7_ hk_6_11_2_3_7_)
              have HY_6_11_2_3_7_ := Lib.hid (HY_6_11_2_3_.out.kept HL_6_11_2_3_.out.irow.2 (by decide) hk_6_11_2_3_7_)
              have HO_6_11_2_3_7_ := Lib.hid (show OwnB w_6_11_2_3_7_ bb B2 n2 c2 en from rowKept HO_6_11_2_3_.out HL_6_11_2_3_.out.irow.2 (by decide) hk_6_11_2_3_7_)
              have hsz_6_11_2_3_7_ : wk.heap.size ≤ w_6_11_2_3_7_.heap.size := Nat.le_trans hsz_6_11_2_3_ (HSZ hk_6_11_2_3_7_ hb_6_11_2_3_7_)
              have HC_6_11_2_3_7_11 := Lib.hid (cellKept hk_6_11_2_3_7_ hg_6_11_2_3_11 (fun a ha e => by have := hIA a ha; omega) HC_6_11_2_3_11.out)
              have hg_6_11_2_3_7_11 : w_6_.heap.size < w_6_11_2_3_7_.heap.size := Nat.lt_of_lt_of_le hg_6_11_2_3_11 (HSZ hk_6_11_2_3_7_ hb_6_11_2_3_7_)
              refine hK.out _ _ ?_ (fun hHeld => ?_)
              · exact ⟨_, HO_6_11_2_3_7_.out⟩
              clear hK K
              try simp only [Act.put, List.setIfInBounds_toArray, List.set_cons_zero, List.set_cons_succ, List.getElem_toArray, List.getElem_cons_zero, List.getElem_cons_succ]
              refine wpAnyH_ready (rs := [12]) (by kernel_rfl) (by simp) ?_
              refine AllReadyH.cons (o := _) rfl (fun K hK => ?_) AllReadyH.nil
              refine step_append_g 47 9 _ 16 Try.underlying47 info_str rfl (by decide) rfl (.tmp 104) (.tmp 107) rfl w.heap.size SA S.length sc (strC S) rfl HL_6_11_2_3_7_.out.srow _ 1 1 (strC [en]) rfl rfl (.inr ⟨w_6_.heap.size, 0, rfl, by simp, fun i u hu => by
                have hi : i = 0 := by have := (List.getElem?_eq_some_iff.1 hu).1; simp [hdrC, strC] at this; omega
                subst hi
                rw [← hu]
                simpa [hdrC, strC, hdr] using HC_6_11_2_3_7_11.out⟩) (strC_one _) (by omega) HL_6_11_2_3_7_.out.sz ?_
              intro A_6_11_2_3_7_12_ c_6_11_2_3_7_12_ w_6_11_2_3_7_12_ ho_6_11_2_3_7_12_ hb_6_11_2_3_7_12_ hk_6_11_2_3_7_12_
              have HL_6_11_2_3_7_12_ := Lib.hid (HL_6_11_2_3_7_.out.addS ho_6_11_2_3_7_12_ hb_6_11_2_3_7_12_ hk_6_11_2_3_7_12_)
              have HY_6_11_2_3_7_12_ := Lib.hid (HY_6_11_2_3_7_.out.kept HL_6_11_2_3_7_.out.srow.2 (by decide) hk_6_11_2_3_7_12_)
              have HO_6_11_2_3_7_12_ := Lib.hid (show OwnB w_6_11_2_3_7_12_ bb B2 n2 c2 en from rowKept HO_6_11_2_3_7_.out HL_6_11_2_3_7_.out.srow.2 (by decide) hk_6_11_2_3_7_12_)
              have hsz_6_11_2_3_7_12_ : wk.heap.size ≤ w_6_11_2_3_7_12_.heap.size := Nat.le_trans hsz_6_11_2_3_7_ (HSZ hk_6_11_2_3_7_12_ hb_6_11_2_3_7_12_)
              refine hK.out _ _ ?_ (fun hHeld => ?_)
              · exact ⟨_, HO_6_11_2_3_7_12_.out⟩
              clear hK K
              try simp only [Act.put, List.setIfInBounds_toArray, List.set_cons_zero, List.set_cons_succ, List.getElem_toArray, List.getElem_cons_zero, List.getElem_cons_succ]
              refine' wpAnyH_take (i := 13) (oi := _) (v := _) rfl (by kernel_rfl) (by kernel_rfl) (by kernel_rfl) (fun _ _ _ h => h) (Or.inl ⟨by rfl, ?hz48⟩) (by assumption) ?rezt48
              case hz48 => (intro w' hSw; (try dsimp only at hSw); go_simp; try with_reducible rfl)
              try simp only [Act.put, List.setIfInBounds_toArray, List.set_cons_zero, List.set_cons_succ, List.getElem_toArray, List.getElem_cons_zero, List.getElem_cons_succ]
              refine' wpAnyH_take (i := 14) (oi := _) (v := _) rfl (by kernel_rfl) (by kernel_rfl) (by kernel_rfl) (fun _ _ _ h => h) (Or.inl ⟨by rfl, ?hz49⟩) (by assumption) ?rezt49
              case hz49 => (intro w' hSw; (try dsimp only at hSw); go_simp; try with_reducible rfl)
              try simp only [Act.put, List.setIfInBounds_toArray, List.set_cons_zero, List.set_cons_succ, List.getElem_toArray, List.getElem_cons_zero, List.getElem_cons_succ]
              refine' wpAnyH_take (i := 15) (oi := _) (v := _) rfl (by kernel_rfl) (by kernel_rfl) (by kernel_rfl) (fun _ _ _ h => h) (Or.inl ⟨by rfl, ?hz50⟩) (by assumption) ?rezt50
              case hz50 => (intro w' hSw; (try dsimp only at hSw); go_simp; try with_reducible rfl)
              try simp only [Act.put, List.setIfInBounds_toArray, List.set_cons_zero, List.set_cons_succ, List.getElem_toArray, List.getElem_cons_zero, List.getElem_cons_succ]
              refine wpAnyH_done (by kernel_rfl) ?_ _
              have HR := Lib.hid (HREL.out _ _ _ _ _ _ _ HL_6_11_2_3_7_12_.out)
              go_wp2_with fail
              go_roundw
              case rel => exact HR.out
              case measure => simp [intOf]; omega
          · go_simp
            obtain ⟨w_11_, hw_11_⟩ : ∃ W, W = wd.alloc (.cells #[.string (strOfNums en)] 9) := ⟨_, rfl⟩
            have hb_11_ : Below wd.heap.size wd w_11_ := by rw [hw_11_]; exact (Below.refl _ _).alloc (Nat.le_refl _) _
            have HL_11_ := Lib.hid (HL_.out.keep hb_11_)
            have HY_11_ := Lib.hid (HY_.out.keep hb_11_)
            have HO_11_ := Lib.hid (HO_.out.keep hb_11_)
            have hsz_11_ : wk.heap.size ≤ w_11_.heap.size := Nat.le_trans hsz_ hb_11_.size
            have hl_11_ : wd.heap.size < w_11_.heap.size := by rw [hw_11_]; simp
            have HC_11_11 := Lib.hid (show w_11_.cell? ⟨wd.heap.size, 0, none⟩ = some (.string (strOfNums en)) by rw [hw_11_, heap_cell (heap_alloc_new _ _)]; exact rfl)
            rw [← hw_11_]
            clear hw_11_
            refine hK.out _ _ ?_ (fun hHeld => ?_)
            · exact ⟨_, HO_11_.out⟩
            clear hK K
            try simp only [Act.put, List.setIfInBounds_toArray, List.set_cons_zero, List.set_cons_succ, List.getElem_toArray, List.getElem_cons_zero, List.getElem_cons_succ]
            refine wpAnyH_ready (rs := [2, 6]) (by kernel_rfl) (by simp) ?_
            refine AllReadyH.cons (o := _) rfl (fun K hK => ?_) (AllReadyH.cons (o := _) rfl (fun K hK => ?_) AllReadyH.nil)
            · go_simp
              obtain ⟨w_11_2_, hw_11_2_⟩ : ∃ W, W = w_11_.alloc (.cells #[.slice x.A x.n x.c] 22) := ⟨_, rfl⟩
              have hb_11_2_ : Below w_11_.heap.size w_11_ w_11_2_ := by rw [hw_11_2_]; exact (Below.refl _ _).alloc (Nat.le_refl _) _
              have HL_11_2_ := Lib.hid (HL_11_.out.keep hb_11_2_)
              have HY_11_2_ := Lib.hid (HY_11_.out.keep hb_11_2_)
              have HO_11_2_ := Lib.hid (HO_11_.out.keep hb_11_2_)
              have hsz_11_2_ : wk.heap.size ≤ w_11_2_.heap.size := Nat.le_trans hsz_11_ hb_11_2_.size
              have hl_11_2_ : w_11_.heap.size < w_11_2_.heap.size := by rw [hw_11_2_]; simp
              have HC_11_2_2 := Lib.hid (show w_11_2_.cell? ⟨w_11_.heap.size, 0, none⟩ = some (hdr x) by rw [hw_11_2_, heap_cell (heap_alloc_new _ _)]; exact rfl)
              have HC_11_2_11 := Lib.hid ((hb_11_2_.cell (p := ⟨wd.heap.size, 0, none⟩) hl_11_).trans HC_11_11.out)
              have hg_11_2_11 : wd.heap.size < w_11_2_.heap.size := Nat.lt_of_lt_of_le hl_11_ hb_11_2_.size
              rw [← hw_11_2_]
              clear hw_11_2_
              refine hK.out _ _ ?_ (fun hHeld => ?_)
              · exact ⟨_, HO_11_2_.out⟩
              clear hK K
              try simp only [Act.put, List.setIfInBounds_toArray, List.set_cons_zero, List.set_cons_succ, List.getElem_toArray, List.getElem_cons_zero, List.getElem_cons_succ]
              refine wpAnyH_ready (rs := [3, 6]) (by kernel_rfl) (by simp) ?_
              refine AllReadyH.cons (o := _) rfl (fun K hK => ?_) (AllReadyH.cons (o := _) rfl (fun K hK => ?_) AllReadyH.nil)
              · refine step_append_g 44 22 _ 24 Try.underlying44 info_vs rfl (by decide) rfl (.tmp 96) (.tmp 98) rfl w.heap.size WA M.length wc (hdrC M) rfl HL_11_2_.out.wrow _ 1 1 (hdrC [x]) rfl rfl (.inr ⟨w_11_.heap.size, 0, rfl, by simp, fun i u hu => by
                  have hi : i = 0 := by have := (List.getElem?_eq_some_iff.1 hu).1; simp [hdrC, strC] at this; omega
                  subst hi
                  rw [← hu]
                  simpa [hdrC, strC, hdr] using HC_11_2_2.out⟩) (hdrC_one _) (by omega) HL_11_2_.out.sz ?_
                intro A_11_2_3_ c_11_2_3_ w_11_2_3_ ho_11_2_3_ hb_11_2_3_ hk_11_2_3_
                have HL_11_2_3_ := Lib.hid (HL_11_2_.out.addW HX0.out ho_11_2_3_ hb_11_2_3_ hk_11_2_3_)
                have HY_11_2_3_ := Lib.hid (HY_11_2_.out.kept HL_11_2_.out.wrow.2 (by decide) hk_11_2_3_)
                have HO_11_2_3_ := Lib.hid (show OwnB w_11_2_3_ bb B2 n2 c2 en from rowKept HO_11_2_.out HL_11_2_.out.wrow.2 (by decide) hk_11_2_3_)
                have hsz_11_2_3_ : wk.heap.size ≤ w_11_2_3_.heap.size := Nat.le_trans hsz_11_2_ (HSZ hk_11_2_3_ hb_11_2_3_)
                have HC_11_2_3_11 := Lib.hid (cellKept hk_11_2_3_ hg_11_2_11 (fun a ha e => by have := hWA a ha; omega) HC_11_2_11.out)
                have hg_11_2_3_11 : wd.heap.size < w_11_2_3_.heap.size := Nat.lt_of_lt_of_le hg_11_2_11 (HSZ hk_11_2_3_ hb_11_2_3_)
                refine hK.out _ _ ?_ (fun hHeld => ?_)
                · exact ⟨_, HO_11_2_3_.out⟩
                clear hK K
                try simp only [Act.put, List.setIfInBounds_toArray, List.set_cons_zero, List.set_cons_succ, List.getElem_toArray, List.getElem_cons_zero, List.getElem_cons_succ]
                refine wpAnyH_ready (rs := [6]) (by kernel_rfl) (by simp) ?_
                refine AllReadyH.cons (o := _) rfl (fun K hK => ?_) AllReadyH.nil
                go_simp
                obtain ⟨w_11_2_3_6_, hw_11_2_3_6_⟩ : ∃ W, W = w_11_2_3_.alloc (.cells #[.slice D3 m3 d3] 22) := ⟨_, rfl⟩
                have hb_11_2_3_6_ : Below w_11_2_3_.heap.size w_11_2_3_ w_11_2_3_6_ := by rw [hw_11_2_3_6_]; exact (Below.refl _ _).alloc (Nat.le_refl _) _
                have HL_11_2_3_6_ := Lib.hid (HL_11_2_3_.out.keep hb_11_2_3_6_)
                have HY_11_2_3_6_ := Lib.hid (HY_11_2_3_.out.keep hb_11_2_3_6_)
                have HO_11_2_3_6_ := Lib.hid (HO_11_2_3_.out.keep hb_11_2_3_6_)
                have hsz_11_2_3_6_ : wk.heap.size ≤ w_11_2_3_6_.heap.size := Nat.le_trans hsz_11_2_3_ hb_11_2_3_6_.size
                have hl_11_2_3_6_ : w_11_2_3_.heap.size < w_11_2_3_6_.heap.size := by rw [hw_11_2_3_6_]; simp
                have HC_11_2_3_6_6 := Lib.hid (show w_11_2_3_6_.cell? ⟨w_11_2_3_.heap.size, 0, none⟩ = some (hdr y) by rw [hw_11_2_3_6_, heap_cell (heap_alloc_new _ _)]; exact congrArg some HYV.out)
                have HC_11_2_3_6_11 := Lib.hid ((hb_11_2_3_6_.cell (p := ⟨wd.heap.size, 0, none⟩) hg_11_2_3_11).trans HC_11_2_3_11.out)
                have hg_11_2_3_6_11 : wd.heap.size < w_11_2_3_6_.heap.size := Nat.lt_of_lt_of_le hg_11_2_3_11 hb_11_2_3_6_.size
                rw [← hw_11_2_3_6_]
                clear hw_11_2_3_6_
                refine hK.out _ _ ?_ (fun hHeld => ?_)
                · exact ⟨_, HO_11_2_3_6_.out⟩
                clear hK K
                try simp only [Act.put, List.setIfInBounds_toArray, List.set_cons_zero, List.set_cons_succ, List.getElem_toArray, List.getElem_cons_zero, List.getElem_cons_succ]
                refine wpAnyH_ready (rs := [7]) (by kernel_rfl) (by simp) ?_
                refine AllReadyH.cons (o := _) rfl (fun K hK => ?_) AllReadyH.nil
                refine step_append_g 44 22 _ 24 Try.underlying44 info_vs rfl (by decide) rfl (.tmp 100) (.tmp 102) rfl w.heap.size IA N.length ic (hdrC N) rfl HL_11_2_3_6_.out.irow _ 1 1 (hdrC [y]) rfl rfl (.inr ⟨w_11_2_3_.heap.size, 0, rfl, by simp, fun i u hu => by
                  have hi : i = 0 := by have := (List.getElem?_eq_some_iff.1 hu).1; simp [hdrC, strC] at this; omega
                  subst hi
                  rw [← hu]
                  simpa [hdrC, strC, hdr] using HC_11_2_3_6_6.out⟩) (hdrC_one _) (by omega) HL_11_2_3_6_.out.sz ?_
                intro A_11_2_3_6_7_ c_11_2_3_6_7_ w_11_2_3_6_7_ ho_11_2_3_6_7_ hb_11_2_3_6_7_ hk_11_2_3_6_7_
                have HL_11_2_3_6_7_ := Lib.hid (HL_11_2_3_6_.out.addI HY_11_2_3_6_.out ho_11_2_3_6_7_ hb_11_2_3_6_7_ hk_11_2_3_6_7_)
                have HY_11_2_3_6_7_ := Lib.hid (HY_11_2_3_6_.out.kept HL_11_2_3_6_.out.irow.2 (by decide) hk_11_2_3_6_7_)
                have HO_11_2_3_6_7_ := Lib.hid (show OwnB w_11_2_3_6_7_ bb B2 n2 c2 en from rowKept HO_11_2_3_6_.out HL_11_2_3_6_.out.irow.2 (by decide) hk_11_2_3_6_7_)
                have hsz_11_2_3_6_7_ : wk.heap.size ≤ w_11_2_3_6_7_.heap.size := Nat.le_trans hsz_11_2_3_6_ (HSZ hk_11_2_3_6_7_ hb_11_2_3_6_7_)
                have HC_11_2_3_6_7_11 := Lib.hid (cellKept hk_11_2_3_6_7_ hg_11_2_3_6_11 (fun a ha e => by have := hIA a ha; omega) HC_11_2_3_6_11.out)
                have hg_11_2_3_6_7_11 : wd.heap.size < w_11_2_3_6_7_.heap.size := Nat.lt_of_lt_of_le hg_11_2_3_6_11 (HSZ hk_11_2_3_6_7_ hb_11_2_3_6_7_)
                refine hK.out _ _ ?_ (fun hHeld => ?_)
                · exact ⟨_, HO_11_2_3_6_7_.out⟩
                clear hK K
                try simp only [Act.put, List.setIfInBounds_toArray, List.set_cons_zero, List.set_cons_succ, List.getElem_toArray, List.getElem_cons_zero, List.getElem_cons_succ]
                refine wpAnyH_ready (rs := [12]) (by kernel_rfl) (by simp) ?_
                refine AllReadyH.cons (o := _) rfl (fun K hK => ?_) AllReadyH.nil
                refine step_append_g 47 9 _ 16 Try.underlying47 info_str rfl (by decide) rfl (.tmp 104) (.tmp 107) rfl w.heap.size SA S.length sc (strC S) rfl HL_11_2_3_6_7_.out.srow _ 1 1 (strC [en]) rfl rfl (.inr ⟨wd.heap.size, 0, rfl, by simp, fun i u hu => by
                  have hi : i = 0 := by have := (List.getElem?_eq_some_iff.1 hu).1; simp [hdrC, strC] at this; omega
                  subst hi
                  rw [← hu]
                  simpa [hdrC, strC, hdr] using HC_11_2_3_6_7_11.out⟩) (strC_one _) (by omega) HL_11_2_3_6_7_.out.sz ?_
                intro A_11_2_3_6_7_12_ c_11_2_3_6_7_12_ w_11_2_3_6_7_12_ ho_11_2_3_6_7_12_ hb_11_2_3_6_7_12_ hk_11_2_3_6_7_12_
                have HL_11_2_3_6_7_12_ := Lib.hid (HL_11_2_3_6_7_.out.addS ho_11_2_3_6_7_12_ hb_11_2_3_6_7_12_ hk_11_2_3_6_7_12_)
                have HY_11_2_3_6_7_12_ := Lib.hid (HY_11_2_3_6_7_.out.kept HL_11_2_3_6_7_.out.srow.2 (by decide) hk_11_2_3_6_7_12_)
                have HO_11_2_3_6_7_12_ := Lib.hid (show OwnB w_11_2_3_6_7_12_ bb B2 n2 c2 en from rowKept HO_11_2_3_6_7_.out HL_11_2_3_6_7_.out.srow.2 (by decide) hk_11_2_3_6_7_12_)
                have hsz_11_2_3_6_7_12_ : wk.heap.size ≤ w_11_2_3_6_7_12_.heap.size := Nat.le_trans hsz_11_2_3_6_7_ (HSZ hk_11_2_3_6_7_12_ hb_11_2_3_6_7_12_)
                refine hK.out _ _ ?_ (fun hHeld => ?_)
                · exact ⟨_, HO_11_2_3_6_7_12_.out⟩
                clear hK K
                try simp only [Act.put, List.setIfInBounds_toArray, List.set_cons_zero, List.set_cons_succ, List.getElem_toArray, List.getElem_cons_zero, List.getElem_cons_succ]
                refine' wpAnyH_take (i := 13) (oi := _) (v := _) rfl (by kernel_rfl) (by kernel_rfl) (by kernel_rfl) (fun _ _ _ h => h) (Or.inl ⟨by rfl, ?hz51⟩) (by assumption) ?rezt51
                case hz51 => (intro w' hSw; (try dsimp only at hSw); go_simp; try with_reducible rfl)
                try simp only [Act.put, List.setIfInBounds_toArray, List.set_cons_zero, List.set_cons_succ, List.getElem_toArray, List.getElem_cons_zero, List.getElem_cons_succ]
                refine' wpAnyH_take (i := 14) (oi := _) (v := _) rfl (by kernel_rfl) (by kernel_rfl) (by kernel_rfl) (fun _ _ _ h => h) (Or.inl ⟨by rfl, ?hz52⟩) (by assumption) ?rezt52
                case hz52 => (intro w' hSw; (try dsimp only at hSw); go_simp; try with_reducible rfl)
                try simp only [Act.put, List.setIfInBounds_toArray, List.set_cons_zero, List.set_cons_succ, List.getElem_toArray, List.getElem_cons_zero, List.getElem_cons_succ]
                refine' wpAnyH_take (i := 15) (oi := _) (v := _) rfl (by kernel_rfl) (by kernel_rfl) (by kernel_rfl) (fun _ _ _ h => h) (Or.inl ⟨by rfl, ?hz53⟩) (by assumption) ?rezt53
                case hz53 => (intro w' hSw; (try dsimp only at hSw); go_simp; try with_reducible rfl)
                try simp only [Act.put, List.setIfInBounds_toArray, List.set_cons_zero, List.set_cons_succ, List.getElem_toArray, List.getElem_cons_zero, List.getElem_cons_succ]
                refine wpAnyH_done (by kernel_rfl) ?_ _
                have HR := Lib.hid (HREL.out _ _ _ _ _ _ _ HL_11_2_3_6_7_12_.out)
                go_wp2_with fail
                go_roundw
                case rel => exact HR.out
                case measure => simp [intOf]; omega
              · go_simp
                obtain ⟨w_11_2_6_, hw_11_2_6_⟩ : ∃ W, W = w_11_2_.alloc (.cells #[.slice D3 m3 d3] 22) := ⟨_, rfl⟩
                have hb_11_2_6_ : Below w_11_2_.heap.size w_11_2_ w_11_2_6_ := by rw [hw_11_2_6_]; exact (Below.refl _ _).alloc (Nat.le_refl _) _
                have HL_11_2_6_ := Lib.hid (HL_11_2_.out.keep hb_11_2_6_)
                have HY_11_2_6_ := Lib.hid (HY_11_2_.out.keep hb_11_2_6_)
                have HO_11_2_6_ := Lib.hid (HO_11_2_.out.keep hb_11_2_6_)
                have hsz_11_2_6_ : wk.heap.size ≤ w_11_2_6_.heap.size := Nat.le_trans hsz_11_2_ hb_11_2_6_.size
                have hl_11_2_6_ : w_11_2_.heap.size < w_11_2_6_.heap.size := by rw [hw_11_2_6_]; simp
                have HC_11_2_6_6 := Lib.hid (show w_11_2_6_.cell? ⟨w_11_2_.heap.size, 0, none⟩ = some (hdr y) by rw [hw_11_2_6_, heap_cell (heap_alloc_new _ _)]; exact congrArg some HYV.out)
                have HC_11_2_6_11 := Lib.hid ((hb_11_2_6_.cell (p := ⟨wd.heap.size, 0, none⟩) hg_11_2_11).trans HC_11_2_11.out)
                have hg_11_2_6_11 : wd.heap.size < w_11_2_6_.heap.size := Nat.lt_of_lt_of_le hg_11_2_11 hb_11_2_6_.size
                have HC_11_2_6_2 := Lib.hid ((hb_11_2_6_.cell (p := ⟨w_11_.heap.size, 0, none⟩) hl_11_2_).trans HC_11_2_2.out)
                have hg_11_2_6_2 : w_11_.heap.size < w_11_2_6_.heap.size := Nat.lt_of_lt_of_le hl_11_2_ hb_11_2_6_.size
                rw [← hw_11_2_6_]
                clear hw_11_2_6_
                refine hK.out _ _ ?_ (fun hHeld => ?_)
                · exact ⟨_, HO_11_2_6_.out⟩
                clear hK K
                try simp only [Act.put, List.setIfInBounds_toArray, List.set_cons_zero, List.set_cons_succ, List.getElem_toArray, List.getElem_cons_zero, List.getElem_cons_succ]
                refine wpAnyH_ready (rs := [3]) (by kernel_rfl) (by simp) ?_
                refine AllReadyH.cons (o := _) rfl (fun K hK => ?_) AllReadyH.nil
                refine step_append_g 44 22 _ 24 Try.underlying44 info_vs rfl (by decide) rfl (.tmp 96) (.tmp 98) rfl w.heap.size WA M.length wc (hdrC M) rfl HL_11_2_6_.out.wrow _ 1 1 (hdrC [x]) rfl rfl (.inr ⟨w_11_.heap.size, 0, rfl, by simp, fun i u hu => by
                  have hi : i = 0 := by have := (List.getElem?_eq_some_iff.1 hu).1; simp [hdrC, strC] at this; omega
                  subst hi
                  rw [← hu]
                  simpa [hdrC, strC, hdr] using HC_11_2_6_2.out⟩) (hdrC_one _) (by omega) HL_11_2_6_.out.sz ?_
                intro A_11_2_6_3_ c_11_2_6_3_ w_11_2_6_3_ ho_11_2_6_3_ hb_11_2_6_3_ hk_11_2_6_3_
                have HL_11_2_6_3_ := Lib.hid (HL_11_2_6_.out.addW HX0.out ho_11_2_6_3_ hb_11_2_6_3_ hk_11_2_6_3_)
                have HY_11_2_6_3_ := Lib.hid (HY_11_2_6_.out.kept HL_11_2_6_.out.wrow.2 (by decide) hk_11_2_6_3_)
                have HO_11_2_6_3_ := Lib.hid (show OwnB w_11_2_6_3_ bb B2 n2 c2 en from rowKept HO_11_2_6_.out HL_11_2_6_.out.wrow.2 (by decide) hk_11_2_6_3_)
                have hsz_11_2_6_3_ : wk.heap.size ≤ w_11_2_6_3_.heap.size := Nat.le_trans hsz_11_2_6_ (HSZ hk_11_2_6_3_ hb_11_2_6_3_)
                have HC_11_2_6_3_11 := Lib.hid (cellKept hk_11_2_6_3_ hg_11_2_6_11 (fun a ha e => by have := hWA a ha; omega) HC_11_2_6_11.out)
                have hg_11_2_6_3_11 : wd.heap.size < w_11_2_6_3_.heap.size := Nat.lt_of_lt_of_le hg_11_2_6_11 (HSZ hk_11_2_6_3_ hb_11_2_6_3_)
                have HC_11_2_6_3_6 := Lib.hid (cellKept hk_11_2_6_3_ hl_11_2_6_ (fun a ha e => by have := hWA a ha; omega) HC_11_2_6_6.out)
                have hg_11_2_6_3_6 : w_11_2_.heap.size < w_11_2_6_3_.heap.size := Nat.lt_of_lt_of_le hl_11_2_6_ (HSZ hk_11_2_6_3_ hb_11_2_6_3_)
                refine hK.out _ _ ?_ (fun hHeld => ?_)
                · exact ⟨_, HO_11_2_6_3_.out⟩
                clear hK K
                try simp only [Act.put, List.setIfInBounds_toArray, List.set_cons_zero, List.set_cons_succ, List.getElem_toArray, List.getElem_cons_zero, List.getElem_cons_succ]
                refine wpAnyH_ready (rs := [7]) (by kernel_rfl) (by simp) ?_
                refine AllReadyH.cons (o := _) rfl (fun K hK => ?_) AllReadyH.nil
                refine step_append_g 44 22 _ 24 Try.underlying44 info_vs rfl (by decide) rfl (.tmp 100) (.tmp 102) rfl w.heap.size IA N.length ic (hdrC N) rfl HL_11_2_6_3_.out.irow _ 1 1 (hdrC [y]) rfl rfl (.inr ⟨w_11_2_.heap.size, 0, rfl, by simp, fun i u hu => by
                  have hi : i = 0 := by have := (List.getElem?_eq_some_iff.1 hu).1; simp [hdrC, strC] at this; omega
                  subst hi
                  rw [← hu]
                  simpa [hdrC, strC, hdr] using HC_11_2_6_3_6.out⟩) (hdrC_one _) (by omega) HL_11_2_6_3_.out.sz ?_
                intro A_11_2_6_3_7_ c_11_2_6_3_7_ w_11_2_6_3_7_ ho_11_2_6_3_7_ hb_11_2_6_3_7_ hk_11_2_6_3_7_
                have HL_11_2_6_3_7_ := Lib.hid (HL_11_2_6_3_.out.addI HY_11_2_6_3_.out ho_11_2_6_3_7_ hb_11_2_6_3_7_ hk_11_2_6_3_7_)
                have HY_11_2_6_3_7_ := Lib.hid (HY_11_2_6_3_.out.kept HL_11_2_6_3_.out.irow.2 (by decide) hk_11_2_6_3_7_)
                have HO_11_2_6_3_7_ := Lib.hid (show OwnB w_11_2_6_3_7_ bb B2 n2 c2 en from rowKept HO_11_2_6_3_.out HL_11_2_6_3_.out.irow.2 (by decide) hk_11_2_6_3_7_)
                have hsz_11_2_6_3_7_ : wk.heap.size ≤ w_11_2_6_3_7_.heap.size := Nat.le_trans hsz_11_2_6_3_ (HSZ hk_11_2_6_3_7_ hb_11_2_6_3_7_)
                have HC_11_2_6_3_7_11 := Lib.hid (cellKept hk_11_2_6_3_7_ hg_11_2_6_3_11 (fun a ha e => by have := hIA a ha; omega) HC_11_2_6_3_11.out)
                have hg_11_2_6_3_7_11 : wd.heap.size < w_11_2_6_3_7_.heap.size := Nat.lt_of_lt_of_le hg_11_2_6_3_11 (HSZ hk_11_2_6_3_7_ hb_11_2_6_3_7_)
                refine hK.out _ _ ?_ (fun hHeld => ?_)
                · exact ⟨_, HO_11_2_6_3_7_.out⟩
                clear hK K
                try simp only [Act.put, List.setIfInBounds_toArray, List.set_cons_zero, List.set_cons_succ, List.getElem_toArray, List.getElem_cons_zero, List.getElem_cons_succ]
                refine wpAnyH_ready (rs := [12]) (by kernel_rfl) (by simp) ?_
                refine AllReadyH.cons (o := _) rfl (fun K hK => ?_) AllReadyH.nil
                refine step_append_g 47 9 _ 16 Try.underlying47 info_str rfl (by decide) rfl (.tmp 104) (.tmp 107) rfl w.heap.size SA S.length sc (strC S) rfl HL_11_2_6_3_7_.out.srow _ 1 1 (strC [en]) rfl rfl (.inr ⟨wd.heap.size, 0, rfl, by simp, fun i u hu => by
                  have hi : i = 0 := by have := (List.getElem?_eq_some_iff.1 hu).1; simp [hdrC, strC] at this; omega
                  subst hi
                  rw [← hu]
                  simpa [hdrC, strC, hdr] using HC_11_2_6_3_7_11.out⟩) (strC_one _) (by omega) HL_11_2_6_3_7_.out.sz ?_
                intro A_11_2_6_3_7_12_ c_11_2_6_3_7_12_ w_11_2_6_3_7_12_ ho_11_2_6_3_7_12_ hb_11_2_6_3_7_12_ hk_11_2_6_3_7_12_
                have HL_11_2_6_3_7_12_ := Lib.hid (HL_11_2_6_3_7_.out.addS ho_11_2_6_3_7_12_ hb_11_2_6_3_7_12_ hk_11_2_6_3_7_12_)
                have HY_11_2_6_3_7_12_ := Lib.hid (HY_11_2_6_3_7_.out.kept HL_11_2_6_3_7_.out.srow.2 (by decide) hk_11_2_6_3_7_12_)
                have HO_11_2_6_3_7_12_ := Lib.hid (show OwnB w_11_2_6_3_7_12_ bb B2 n2 c2 en from rowKept HO_11_2_6_3_7_.out HL_11_2_6_3_7_.out.srow.2 (by decide) hk_11_2_6_3_7_12_)
                have hsz_11_2_6_3_7_12_ : wk.heap.size ≤ w_11_2_6_3_7_12_.heap.size := Nat.le_trans hsz_11_2_6_3_7_ (HSZ hk_11_2_6_3_7_12_ hb_11_2_6_3_7_12_)
                refine hK.out _ _ ?_ (fun hHeld => ?_)
                · exact ⟨_, HO_11_2_6_3_7_12_.out⟩
                clear hK K
                try simp only [Act.put, List.setIfInBounds_toArray, List.set_cons_zero, List.set_cons_succ, List.getElem_toArray, List.getElem_cons_zero, List.getElem_cons_succ]
                refine' wpAnyH_take (i := 13) (oi := _) (v := _) rfl (by kernel_rfl) (by kernel_rfl) (by kernel_rfl) (fun _ _ _ h => h) (Or.inl ⟨by rfl, ?hz54⟩) (by assumption) ?rezt54
                case hz54 => (intro w' hSw; (try dsimp only at hSw); go_simp; try with_reducible rfl)
                try simp only [Act.put, List.setIfInBounds_toArray, List.set_cons_zero, List.set_cons_succ, List.getElem_toArray, List.getElem_cons_zero, List.getElem_cons_succ]
                refine' wpAnyH_take (i := 14) (oi := _) (v := _) rfl (by kernel_rfl) (by kernel_rfl) (by kernel_rfl) (fun _ _ _ h => h) (Or.inl ⟨by rfl, ?hz55⟩) (by assumption) ?rezt55
                case hz55 => (intro w' hSw; (try dsimp only at hSw); go_simp; try with_reducible rfl)
                try simp only [Act.put, List.setIfInBounds_toArray, List.set_cons_zero, List.set_cons_succ, List.getElem_toArray, List.getElem_cons_zero, List.getElem_cons_succ]
                refine' wpAnyH_take (i := 15) (oi := _) (v := _) rfl (by kernel_rfl) (by kernel_rfl) (by kernel_rfl) (fun _ _ _ h => h) (Or.inl ⟨by rfl, ?hz56⟩) (by assumption) ?rezt56
                case hz56 => (intro w' hSw; (try dsimp only at hSw); go_simp; try with_reducible rfl)
                try simp only [Act.put, List.setIfInBounds_toArray, List.set_cons_zero, List.set_cons_succ, List.getElem_toArray, List.getElem_cons_zero, List.getElem_cons_succ]
                refine wpAnyH_done (by kernel_rfl) ?_ _
                have HR := Lib.hid (HREL.out _ _ _ _ _ _ _ HL_11_2_6_3_7_12_.out)
                go_wp2_with fail
                go_roundw
                case rel => exact HR.out
                case measure => simp [intOf]; omega
            · go_simp
              obtain ⟨w_11_6_, hw_11_6_⟩ : ∃ W, W = w_11_.alloc (.cells #[.slice D3 m3 d3] 22) := ⟨_, rfl⟩
              have hb_11_6_ : Below w_11_.heap.size w_11_ w_11_6_ := by rw [hw_11_6_]; exact (Below.refl _ _).alloc (Nat.le_refl _) _
              have HL_11_6_ := Lib.hid (HL_11_.out.keep hb_11_6_)
              have HY_11_6_ := Lib.hid (HY_11_.out.keep hb_11_6_)
              have HO_11_6_ := Lib.hid (HO_11_.out.keep hb_11_6_)
              have hsz_11_6_ : wk.heap.size ≤ w_11_6_.heap.size := Nat.le_trans hsz_11_ hb_11_6_.size
              have hl_11_6_ : w_11_.heap.size < w_11_6_.heap.size := by rw [hw_11_6_]; simp
              have HC_11_6_6 := Lib.hid (show w_11_6_.cell? ⟨w_11_.heap.size, 0, none⟩ = some (hdr y) by rw [hw_11_6_, heap_cell (heap_alloc_new _ _)]; exact congrArg some HYV.out)
              have HC_11_6_11 := Lib.hid ((hb_11_6_.cell (p := ⟨wd.heap.size, 0, none⟩) hl_11_).trans HC_11_11.out)
              have hg_11_6_11 : wd.heap.size < w_11_6_.heap.size := Nat.lt_of_lt_of_le hl_11_ hb_11_6_.size
              rw [← hw_11_6_]
              clear hw_11_6_
              refine hK.out _ _ ?_ (fun hHeld => ?_)
              · exact ⟨_, HO_11_6_.out⟩
              clear hK K
              try simp only [Act.put, List.setIfInBounds_toArray, List.set_cons_zero, List.set_cons_succ, List.getElem_toArray, List.getElem_cons_zero, List.getElem_cons_succ]
              refine wpAnyH_ready (rs := [2]) (by kernel_rfl) (by simp) ?_
              refine AllReadyH.cons (o := _) rfl (fun K hK => ?_) AllReadyH.nil
              go_simp
              obtain ⟨w_11_6_2_, hw_11_6_2_⟩ : ∃ W, W = w_11_6_.alloc (.cells #[.slice x.A x.n x.c] 22) := ⟨_, rfl⟩
              have hb_11_6_2_ : Below w_11_6_.heap.size w_11_6_ w_11_6_2_ := by rw [hw_11_6_2_]; exact (Below.refl _ _).alloc (Nat.le_refl _) _
              have HL_11_6_2_ := Lib.hid (HL_11_6_.out.keep hb_11_6_2_)
              have HY_11_6_2_ := Lib.hid (HY_11_6_.out.keep hb_11_6_2_)
              have HO_11_6_2_ := Lib.hid (HO_11_6_.out.keep hb_11_6_2_)
              have hsz_11_6_2_ : wk.heap.size ≤ w_11_6_2_.heap.size := Nat.le_trans hsz_11_6_ hb_11_6_2_.size
              have hl_11_6_2_ : w_11_6_.heap.size < w_11_6_2_.heap.size := by rw [hw_11_6_2_]; simp
              have HC_11_6_2_2 := Lib.hid (show w_11_6_2_.cell? ⟨w_11_6_.heap.size, 0, none⟩ = some (hdr x) by rw [hw_11_6_2_, heap_cell (heap_alloc_new _ _)]; exact rfl)
              have HC_11_6_2_11 := Lib.hid ((hb_11_6_2_.cell (p := ⟨wd.heap.size, 0, none⟩) hg_11_6_11).trans HC_11_6_11.out)
              have hg_11_6_2_11 : wd.heap.size < w_11_6_2_.heap.size := Nat.lt_of_lt_of_le hg_11_6_11 hb_11_6_2_.size
              have HC_11_6_2_6 := Lib.hid ((hb_11_6_2_.cell (p := ⟨w_11_.heap.size, 0, none⟩) hl_11_6_).trans HC_11_6_6.out)
              have hg_11_6_2_6 : w_11_.heap.size < w_11_6_2_.heap.size := Nat.lt_of_lt_of_le hl_11_6_ hb_11_6_2_.size
              rw [← hw_11_6_2_]
              clear hw_11_6_2_
              refine hK.out _ _ ?_ (fun hHeld => ?_)
              · exact ⟨_, HO_11_6_2_.out⟩
              clear hK K
              try simp only [Act.put, List.setIfInBounds_toArray, List.set_cons_zero, List.set_cons_succ, List.getElem_toArray, List.getElem_cons_zero, List.getElem_cons_succ]
              refine wpAnyH_ready (rs := [3]) (by kernel_rfl) (by simp) ?_
              refine AllReadyH.cons (o := _) rfl (fun K hK => ?_) AllReadyH.nil
              refine step_append_g 44 22 _ 24 Try.underlying44 info_vs rfl (by decide) rfl (.tmp 96) (.tmp 98) rfl w.heap.size WA M.length wc (hdrC M) rfl HL_11_6_2_.out.wrow _ 1 1 (hdrC [x]) rfl rfl (.inr ⟨w_11_6_.heap.size, 0, rfl, by simp, fun i u hu => by
                have hi : i = 0 := by have := (List.getElem?_eq_some_iff.1 hu).1; simp [hdrC, strC] at this; omega
                subst hi
                rw [← hu]
                simpa [hdrC, strC, hdr] using HC_11_6_2_2.out⟩) (hdrC_one _) (by omega) HL_11_6_2_.out.sz ?_
              intro A_11_6_2_3_ c_11_6_2_3_ w_11_6_2_3_ ho_11_6_2_3_ hb_11_6_2_3_ hk_11_6_2_3_
              have HL_11_6_2_3_ := Lib.hid (HL_11_6_2_.out.addW HX0.out ho_11_6_2_3_ hb_11_6_2_3_ hk_11_6_2_3_)
              have HY_11_6_2_3_ := Lib.hid (HY_11_6_2_.out.kept HL_11_6_2_.out.wrow.2 (by decide) hk_11_6_2_3_)
              have HO_11_6_2_3_ := Lib.hid (show OwnB w_11_6_2_3_ bb B2 n2 c2 en from rowKept HO_11_6_2_.out HL_11_6_2_.out.wrow.2 (by decide) hk_11_6_2_3_)
              have hsz_11_6_2_3_ : wk.heap.size ≤ w_11_6_2_3_.heap.size := Nat.le_trans hsz_11_6_2_ (HSZ hk_11_6_2_3_ hb_11_6_2_3_)
              have HC_11_6_2_3_11 := Lib.hid (cellKept hk_11_6_2_3_ hg_11_6_2_11 (fun a ha e => by have := hWA a ha; omega) HC_11_6_2_11.out)
              have hg_11_6_2_3_11 : wd.heap.size < w_11_6_2_3_.heap.size := Nat.lt_of_lt_of_le hg_11_6_2_11 (HSZ hk_11_6_2_3_ hb_11_6_2_3_)
              have HC_11_6_2_3_6 := Lib.hid (cellKept hk_11_6_2_3_ hg_11_6_2_6 (fun a ha e => by have := hWA a ha; omega) HC_11_6_2_6.out)
              have hg_11_6_2_3_6 : w_11_.heap.size < w_11_6_2_3_.heap.size := Nat.lt_of_lt_of_le hg_11_6_2_6 (HSZ hk_11_6_2_3_ hb_11_6_2_3_)
              refine hK.out _ _ ?_ (fun hHeld => ?_)
              · exact ⟨_, HO_11_6_2_3_.out⟩
              clear hK K
              try simp only [Act.put, List.setIfInBounds_toArray, List.set_cons_zero, List.set_cons_succ, List.getElem_toArray, List.getElem_cons_zero, List.getElem_cons_succ]
              refine wpAnyH_ready (rs := [7]) (by kernel_rfl) (by simp) ?_
              refine AllReadyH.cons (o := _) rfl (fun K hK => ?_) AllReadyH.nil
              refine step_append_g 44 22 _ 24 Try.underlying44 info_vs rfl (by decide) rfl (.tmp 100) (.tmp 102) rfl w.heap.size IA N.length ic (hdrC N) rfl HL_11_6_2_3_.out.irow _ 1 1 (hdrC [y]) rfl rfl (.inr ⟨w_11_.heap.size, 0, rfl, by simp, fun i u hu => by
                have hi : i = 0 := by have := (List.getElem?_eq_some_iff.1 hu).1; simp [hdrC, strC] at this; omega
                subst hi
                rw [← hu]
                simpa [hdrC, strC, hdr] using HC_11_6_2_3_6.out⟩) (hdrC_one _) (by omega) HL_11_6_2_3_.out.sz ?_
              intro A_11_6_2_3_7_ c_11_6_2_3_7_ w_11_6_2_3_7_ ho_11_6_2_3_7_ hb_11_6_2_3_7_ hk_11_6_2_3_7_
              have HL_11_6_2_3_7_ := Lib.hid (HL_11_6_2_3_.out.addI HY_11_6_2_3_.out ho_11_6_2_3_7_ hb_11_6_2_3_7_ hk_11_6_2_3_7_)
              have HY_11_6_2_3_7_ := Lib.hid (HY_11_6_2_3_.out.kept HL_11_6_2_3_.out.irow.2 (by decide) hk_11_6_2_3_7_)
              have HO_11_6_2_3_7_ := Lib.hid (show OwnB w_11_6_2_3_7_ bb B2 n2 c2 en from rowKept HO_11_6_2_3_.out HL_11_6_2_3_.out.irow.2 (by decide) hk_11_6_2_3_7_)
              have hsz_11_6_2_3_7_ : wk.heap.size ≤ w_11_6_2_3_7_.heap.size := Nat.le_trans hsz_11_6_2_3_ (HSZ hk_11_6_2_3_7_ hb_11_6_2_3_7_)
              have HC_11_6_2_3_7_11 := Lib.hid (cellKept hk_11_6_2_3_7_ hg_11_6_2_3_11 (fun a ha e => by have := hIA a ha; omega) HC_11_6_2_3_11.out)
              have hg_11_6_2_3_7_11 : wd.heap.size < w_11_6_2_3_7_.heap.size := Nat.lt_of_lt_of_le hg_11_6_2_3_11 (HSZ hk_11_6_2_3_7_ hb_11_6_2_3_7_)
              refine hK.out _ _ ?_ (fun hHeld => ?_)
              · exact ⟨_, HO_11_6_2_3_7_.out⟩
              clear hK K
              try simp only [Act.put, List.setIfInBounds_toArray, List.set_cons_zero, List.set_cons_succ, List.getElem_toArray, List.getElem_cons_zero, List.getElem_cons_succ]
              refine wpAnyH_ready (rs := [12]) (by kernel_rfl) (by simp) ?_
              refine AllReadyH.cons (o := _) rfl (fun K hK => ?_) AllReadyH.nil
              refine step_append_g 47 9 _ 16 Try.underlying47 info_str rfl (by decide) rfl (.tmp 104) (.tmp 107) rfl w.heap.size SA S.length sc (strC S) rfl HL_11_6_2_3_7_.out.srow _ 1 1 (strC [en]) rfl rfl (.inr ⟨wd.heap.size, 0, rfl, by simp, fun i u hu => by
                have hi : i = 0 := by have := (List.getElem?_eq_some_iff.1 hu).1; simp [hdrC, strC] at this; omega
                subst hi
                rw [← hu]
                simpa [hdrC, strC, hdr] using HC_11_6_2_3_7_11.out⟩) (strC_one _) (by omega) HL_11_6_2_3_7_.out.sz ?_
              intro A_11_6_2_3_7_12_ c_11_6_2_3_7_12_ w_11_6_2_3_7_12_ ho_11_6_2_3_7_12_ hb_11_6_2_3_7_12_ hk_11_6_2_3_7_12_
              have HL_11_6_2_3_7_12_ := Lib.hid (HL_11_6_2_3_7_.out.addS ho_11_6_2_3_7_12_ hb_11_6_2_3_7_12_ hk_11_6_2_3_7_12_)
              have HY_11_6_2_3_7_12_ := Lib.hid (HY_11_6_2_3_7_.out.kept HL_11_6_2_3_7_.out.srow.2 (by decide) hk_11_6_2_3_7_12_)
              have HO_11_6_2_3_7_12_ := Lib.hid (show OwnB w_11_6_2_3_7_12_ bb B2 n2 c2 en from rowKept HO_11_6_2_3_7_.out HL_11_6_2_3_7_.out.srow.2 (by decide) hk_11_6_2_3_7_12_)
              have hsz_11_6_2_3_7_12_ : wk.heap.size ≤ w_11_6_2_3_7_12_.heap.size := Nat.le_trans hsz_11_6_2_3_7_ (HSZ hk_11_6_2_3_7_12_ hb_11_6_2_3_7_12_)
              refine hK.out _ _ ?_ (fun hHeld => ?_)
              · exact ⟨_, HO_11_6_2_3_7_12_.out⟩
              clear hK K
              try simp only [Act.put, List.setIfInBounds_toArray, List.set_cons_zero, List.set_cons_succ, List.getElem_toArray, List.getElem_cons_zero, List.getElem_cons_succ]
              refine' wpAnyH_take (i := 13) (oi := _) (v := _) rfl (by kernel_rfl) (by kernel_rfl) (by kernel_rfl) (fun _ _ _ h => h) (Or.inl ⟨by rfl, ?hz57⟩) (by assumption) ?rezt57
              case hz57 => (intro w' hSw; (try dsimp only at hSw); go_simp; try with_reducible rfl)
              try simp only [Act.put, List.setIfInBounds_toArray, List.set_cons_zero, List.set_cons_succ, List.getElem_toArray, List.getElem_cons_zero, List.getElem_cons_succ]
              refine' wpAnyH_take (i := 14) (oi := _) (v := _) rfl (by kernel_rfl) (by kernel_rfl) (by kernel_rfl) (fun _ _ _ h => h) (Or.inl ⟨by rfl, ?hz58⟩) (by assumption) ?rezt58
              case hz58 => (intro w' hSw; (try dsimp only at hSw); go_simp; try with_reducible rfl)
              try simp only [Act.put, List.setIfInBounds_toArray, List.set_cons_zero, List.set_cons_succ, List.getElem_toArray, List.getElem_cons_zero, List.getElem_cons_succ]
              refine' wpAnyH_take (i := 15) (oi := _) (v := _) rfl (by kernel_rfl) (by kernel_rfl) (by kernel_rfl) (fun _ _ _ h => h) (Or.inl ⟨by rfl, ?hz59⟩) (by assumption) ?rezt59
              case hz59 => (intro w' hSw; (try dsimp only at hSw); go_simp; try with_reducible rfl)
              try simp only [Act.put, List.setIfInBounds_toArray, List.set_cons_zero, List.set_cons_succ, List.getElem_toArray, List.getElem_cons_zero, List.getElem_cons_succ]
              refine wpAnyH_done (by kernel_rfl) ?_ _
              have HR := Lib.hid (HREL.out _ _ _ _ _ _ _ HL_11_6_2_3_7_12_.out)
              go_wp2_with fail
              go_roundw
              case rel => exact HR.out
              case measure => simp [intOf]; omega
    · obtain rfl : j = q := by omega
      rename World => wl
      obtain ⟨m, hm⟩ : ∃ m, M.length = m := ⟨_, rfl⟩
      have hlN : N.length = m := by have := congrArg List.length HGA.out.1; rw [valsOf_len, valsOf_len] at this; omega
      have hlS : S.length = m := by rw [HGA.out.2.1, List.length_map]; exact hm
      have hwcap := HL3.out.wrow.cap
      have hicap := HL3.out.irow.cap
      have hscap := HL3.out.srow.cap
      rw [hm] at hwcap hmj ⊢
      rw [hlN] at hicap ⊢
      rw [hlS] at hscap ⊢
      have HLM := Lib.hid hm
      have HLN := Lib.hid hlN
      have HLS := Lib.hid hlS
      have HCL := Lib.hid (HC.out.keep hb)
      have hm20 : m ≤ 20 := by omega
      have hlt' : ¬ (j : Int) < (j : Int) := by omega
      clear hm hlN hlS hcut HA HN HC hq20
      by_cases hm0 : m = 0
      · subst hm0
        have q5 : ((0 : Int) == 0) = true := rfl
        have q6 : (((0 : Nat) : Int) == 0) = true := rfl
        go_wp2_with fail
        go_ret
        exact ⟨rfl, hb⟩
      have q5 : ((m : Int) == 0) = false := by rw [beq_eq_false_iff_ne]; omega
      have hmp : 0 < m := by omega
      have HRW := Lib.hid HL3.out.wrd
      have HRI := Lib.hid HL3.out.ird
      have HVV := Lib.hid (show ∀ r ∈ M, ∀ v ∈ r.F, VOk v from fun r hr => (HRW.out.2 r hr).2.2.2.2)
      have HVI := Lib.hid (show ∀ r ∈ N, ∀ v ∈ r.F, VOk v from fun r hr => (HRI.out.2 r hr).2.2.2.2)
      have HSH := Lib.hid (HGA.out.short HL3.out.mok HRI.out.2 HM64.out)
      obtain ⟨wb, wo, hwe, hwc⟩ := HRW.out.at (by rw [HLM.out]; exact hmp)
      obtain ⟨ib, io, hie, hic⟩ := HRI.out.at (by rw [HLN.out]; exact hmp)
      obtain ⟨sb, so, hse, hsc⟩ := HL3.out.str (by rw [HLS.out]; exact hmp)
      subst hwe
      subst hie
      subst hse
      have HWC := Lib.hid hwc
      have HIC := Lib.hid hic
      have HSC := Lib.hid hsc
      clear hwc hic hsc hm0
      go_wp2_with fail
      go_loopw [115] (fun iv wr => ∃ i : Nat, i ≤ m ∧ iv = .int .i64 (i : Int) ∧ Below wl.heap.size wl wr) (fun i _ => m - (intOf i).toNat)
      case atStart => exact ⟨0, Nat.zero_le _, rfl, Below.refl _ _⟩
      case round =>
        rename World => w3
        obtain ⟨i, hi, rfl, hb3⟩ := hrel
        by_cases hli : i < m
        · have hli' : (i : Int) < (m : Int) := by omega
          have i00 : (0 : Int) ≤ (i : Int) := by omega
          have hiw : IntKind.i64.wrap ((i : Int) + 1) = (i : Int) + 1 := IntWalk.i64_in _ (by omega)
          have hcutI := run_cut1 wb wo m wc i hli hwcap.1
          go_wp2_with fail
          go_loopw [120] (fun iv wr => ∃ k : Nat, k ≤ m ∧ iv = .int .i64 (k : Int) ∧ Below wl.heap.size wl wr) (fun i _ => m - (intOf i).toNat)
          case atStart => exact ⟨0, Nat.zero_le _, rfl, hb3⟩
          case round =>
            clear hb3
            rename World => w4
            obtain ⟨k, hk, rfl, hb4⟩ := hrel
            by_cases hlk : k < m
            · have hlk' : (k : Int) < (m : Int) := by omega
              have k00 : (0 : Int) ≤ (k : Int) := by omega
              have hkw : IntKind.i64.wrap ((k : Int) + 1) = (k : Int) + 1 := IntWalk.i64_in _ (by omega)
              have hcutK := run_cut1 wb wo m wc k hlk hwcap.1
              have HO := Lib.hid (fun (W : World) (hW : Below wl.heap.size wl W) => osame_any W (some ⟨wb, wo + i, none⟩) (some ⟨wb, wo + k, none⟩) 1 (wc - i) 1 (wc - k) [vw_ M i] [vw_ M k] rfl rfl (by unfold maxLen; omega) (by unfold maxLen; omega) ((HRW.out.keep hW).one (by rw [HLM.out]; exact hli)) ((HRW.out.keep hW).one (by rw [HLM.out]; exact hlk)))
              go_upto_region 33 with fail
              refine wp_region_held_drew (S := (fun W => Below wl.heap.size wl W)) (by kernel_rfl) ?_ (fun hHeld => ?_)
              · exact hb4.drew
              refine' wpAnyH_take (i := 0) (oi := _) (v := _) rfl (by kernel_rfl) (by kernel_rfl) (by kernel_rfl) (fun _ _ _ h => h) (Or.inl ⟨by rfl, ?hz60⟩) (by assumption) ?rezt60
              case hz60 => (intro w' hSw; (try dsimp only at hSw); go_simp; try with_reducible rfl)
              try simp only [Act.put, List.setIfInBounds_toArray, List.set_cons_zero, List.set_cons_succ, List.getElem_toArray, List.getElem_cons_zero, List.getElem_cons_succ]
              refine' wpAnyH_take (i := 1) (oi := _) (v := _) rfl (by kernel_rfl) (by kernel_rfl) (by kernel_rfl) (fun _ _ _ h => h) (Or.inl ⟨by rfl, ?hz61⟩) (by assumption) ?rezt61
              case hz61 => (intro w' hSw; (try dsimp only at hSw); go_simp; try with_reducible rfl)
              try simp only [Act.put, List.setIfInBounds_toArray, List.set_cons_zero, List.set_cons_succ, List.getElem_toArray, List.getElem_cons_zero, List.getElem_cons_succ]
              refine' wpAnyH_take (i := 2) (oi := _) (v := _) rfl (by kernel_rfl) (by kernel_rfl) (by kernel_rfl) (fun _ _ _ h => h) (Or.inl ⟨by rfl, ?hz62⟩) (by assumption) ?rezt62
              case hz62 => (intro w' hSw; (try dsimp only at hSw); go_simp; try with_reducible rfl)
              try simp only [Act.put, List.setIfInBounds_toArray, List.set_cons_zero, List.set_cons_succ, List.getElem_toArray, List.getElem_cons_zero, List.getElem_cons_succ]
              refine' wpAnyH_take (i := 3) (oi := _) (v := _) rfl (by kernel_rfl) (by kernel_rfl) (by kernel_rfl) (fun _ _ _ h => h) (Or.inl ⟨by rfl, ?hz63⟩) (by assumption) ?rezt63
              case hz63 => (intro w' hSw; (try dsimp only at hSw); go_simp; try with_reducible rfl)
              try simp only [Act.put, List.setIfInBounds_toArray, List.set_cons_zero, List.set_cons_succ, List.getElem_toArray, List.getElem_cons_zero, List.getElem_cons_succ]
              refine' wpAnyH_take (i := 4) (oi := _) (v := _) rfl (by kernel_rfl) (by kernel_rfl) (by kernel_rfl) (fun _ _ _ h => h) (Or.inl ⟨by rfl, ?hz64⟩) (by assumption) ?rezt64
              case hz64 => (intro w' hSw; (try dsimp only at hSw); go_simp; try with_reducible rfl)
              try simp only [Act.put, List.setIfInBounds_toArray, List.set_cons_zero, List.set_cons_succ, List.getElem_toArray, List.getElem_cons_zero, List.getElem_cons_succ]
              refine' wpAnyH_take (i := 5) (oi := _) (v := _) rfl (by kernel_rfl) (by kernel_rfl) (by kernel_rfl) (fun _ _ _ h => h) (Or.inl ⟨by rfl, ?hz65⟩) (by assumption) ?rezt65
              case hz65 => (intro w' hSw; (try dsimp only at hSw); go_simp; try with_reducible rfl)
              try simp only [Act.put, List.setIfInBounds_toArray, List.set_cons_zero, List.set_cons_succ, List.getElem_toArray, List.getElem_cons_zero, List.getElem_cons_succ]
              refine' wpAnyH_take (i := 6) (oi := _) (v := _) rfl (by kernel_rfl) (by kernel_rfl) (by kernel_rfl) (fun _ _ _ h => h) (Or.inl ⟨by rfl, ?hz66⟩) (by assumption) ?rezt66
              case hz66 => (intro w' hSw; (try dsimp only at hSw); go_simp; try with_reducible rfl)
              try simp only [Act.put, List.setIfInBounds_toArray, List.set_cons_zero, List.set_cons_succ, List.getElem_toArray, List.getElem_cons_zero, List.getElem_cons_succ]
              refine' wpAnyH_take (i := 7) (oi := _) (v := _) rfl (by kernel_rfl) (by kernel_rfl) (by kernel_rfl) (fun _ _ _ h => h) (Or.inl ⟨by rfl, ?hz67⟩) (by assumption) ?rezt67
              case hz67 => (intro w' hSw; (try dsimp only at hSw); go_simp; try with_reducible rfl)
              try simp only [Act.put, List.setIfInBounds_toArray, List.set_cons_zero, List.set_cons_succ, List.getElem_toArray, List.getElem_cons_zero, List.getElem_cons_succ]
              refine' wpAnyH_take (i := 8) (oi := _) (v := _) rfl (by kernel_rfl) (by kernel_rfl) (by kernel_rfl) (fun _ _ _ h => h) (Or.inl ⟨by rfl, ?hz68⟩) (by assumption) ?rezt68
              case hz68 => (intro w' hSw; (try dsimp only at hSw); go_simp; try with_reducible rfl)
              try simp only [Act.put, List.setIfInBounds_toArray, List.set_cons_zero, List.set_cons_succ, List.getElem_toArray, List.getElem_cons_zero, List.getElem_cons_succ]
              refine' wpAnyH_take (i := 9) (oi := _) (v := _) rfl (by kernel_rfl) (by kernel_rfl) (by kernel_rfl) (fun _ _ _ h => h) (Or.inl ⟨by rfl, ?hz69⟩) (by assumption) ?rezt69
              case hz69 => (intro w' hSw; (try dsimp only at hSw); go_simp; try with_reducible rfl)
              try simp only [Act.put, List.setIfInBounds_toArray, List.set_cons_zero, List.set_cons_succ, List.getElem_toArray, List.getElem_cons_zero, List.getElem_cons_succ]
              refine wpAnyH_ready (rs := [10]) (by kernel_rfl) (by simp) ?_
              refine AllReadyH.cons (o := _) rfl (fun K hK => ?_) AllReadyH.nil
              go_simp
              refine (HO.out _ hb4.drew).mono ?_
              rintro e w5 ⟨b1, rfl, hb1, hb5⟩
              have hb35 : Below wl.heap.size wl w5 := hb4.drew.trans (hb5.mono hb4.drew.size)
              clear hb5
              refine hK.out _ _ ?_ (fun hHeld => ?_)
              · exact hb35
              clear hK K
              try simp only [Act.put, List.setIfInBounds_toArray, List.set_cons_zero, List.set_cons_succ, List.getElem_toArray, List.getElem_cons_zero, List.getElem_cons_succ]
              refine' wpAnyH_take (i := 11) (oi := _) (v := _) rfl (by kernel_rfl) (by kernel_rfl) (by kernel_rfl) (fun _ _ _ h => h) (Or.inl ⟨by rfl, ?hz70⟩) (by assumption) ?rezt70
              case hz70 => (intro w' hSw; (try dsimp only at hSw); go_simp; try with_reducible rfl)
              try simp only [Act.put, List.setIfInBounds_toArray, List.set_cons_zero, List.set_cons_succ, List.getElem_toArray, List.getElem_cons_zero, List.getElem_cons_succ]
              refine wpAnyH_done (by kernel_rfl) ?_ _
              clear hcutK HO hb4
              obtain ⟨z, hz⟩ : ∃ z, cmpK ks (vw_ M i).F (vw_ M k).F = z := ⟨_, rfl⟩
              have hiM : i < M.length := by rw [HLM.out]; exact hli
              have hkM : k < M.length := by rw [HLM.out]; exact hlk
              have hiN : i < N.length := by rw [HLN.out]; exact hli
              have hkN : k < N.length := by rw [HLN.out]; exact hlk
              have HCW := Lib.hid (fun (W : World) (hW : Below wl.heap.size wl W) => ocompare_any W (vw_ M i).A (vw_ M k).A C (vw_ M i).n (vw_ M i).c (vw_ M k).n (vw_ M k).c t e0 (vw_ M i).F (vw_ M k).F ks (HRW.out.2 _ (vw_mem hiM)).1 (HRW.out.2 _ (vw_mem hkM)).1 HT.out (Nat.le_trans (HRW.out.2 _ (vw_mem hiM)).2.1 (HRW.out.2 _ (vw_mem hiM)).2.2.1) (Nat.le_trans (HRW.out.2 _ (vw_mem hkM)).2.1 (HRW.out.2 _ (vw_mem hkM)).2.2.1) (by omega) ((HRW.out.2 _ (vw_mem hiM)).2.2.2.1.keep hW) ((HRW.out.2 _ (vw_mem hkM)).2.2.2.1.keep hW) (HCL.out.keep hW) (HVV.out _ (vw_mem hiM)) (HVV.out _ (vw_mem hkM)) HK.out)
              have HCI := Lib.hid (fun (W : World) (hW : Below wl.heap.size wl W) => ocompare_any W (vw_ N i).A (vw_ N k).A C (vw_ N i).n (vw_ N i).c (vw_ N k).n (vw_ N k).c t e0 (vw_ N i).F (vw_ N k).F ks (HRI.out.2 _ (vw_mem hiN)).1 (HRI.out.2 _ (vw_mem hkN)).1 HT.out (Nat.le_trans (HRI.out.2 _ (vw_mem hiN)).2.1 (HRI.out.2 _ (vw_mem hiN)).2.2.1) (Nat.le_trans (HRI.out.2 _ (vw_mem hkN)).2.1 (HRI.out.2 _ (vw_mem hkN)).2.2.1) (by omega) ((HRI.out.2 _ (vw_mem hiN)).2.2.2.1.keep hW) ((HRI.out.2 _ (vw_mem hkN)).2.2.2.1.keep hW) (HCL.out.keep hW) (HVI.out _ (vw_mem hiN)) (HVI.out _ (vw_mem hkN)) HK.out)
              rw [hz] at HCW
              rw [HGA.out.vals, HGA.out.vals, hz] at HCI
              have c1 := HWC.out i hiM
              have c2 := HWC.out k hkM
              have c3 := HIC.out i hiN
              have c4 := HIC.out k hkN
              have c5 := HSC.out i (by rw [HLS.out]; exact hli)
              have c6 := HSC.out k (by rw [HLS.out]; exact hlk)
              have HST := Lib.hid ((valsOf_one i k).trans (HGA.out.eq HVV.out hiM hkM).symm)
              have HB1 := Lib.hid (HGA.out.isB HVV.out hiM)
              have HB2 := Lib.hid (HGA.out.isB HVV.out hkM)
              obtain ⟨x, hx⟩ : ∃ x, vw_ M i = x := ⟨_, rfl⟩
              obtain ⟨y, hy⟩ : ∃ y, vw_ M k = y := ⟨_, rfl⟩
              obtain ⟨x', hx'⟩ : ∃ x, vw_ N i = x := ⟨_, rfl⟩
              obtain ⟨y', hy'⟩ : ∃ y, vw_ N k = y := ⟨_, rfl⟩
              obtain ⟨sx, hsx⟩ : ∃ x, st_ S i = x := ⟨_, rfl⟩
              obtain ⟨sy, hsy⟩ : ∃ y, st_ S k = y := ⟨_, rfl⟩
              rw [hx, hy] at HCW HST hb1
              rw [hx', hy'] at HCI
              rw [hx] at c1
              rw [hy] at c2
              rw [hx'] at c3
              rw [hy'] at c4
              rw [hsx] at c5 HST HB1
              rw [hsy] at c6 HST HB2
              have HBS := Lib.hid (hb1.trans HST.out)
              have hzz : (z != z) = false := by simp
              have p1 : wb < wl.heap.size := World.block_lt_of_cell? wl ⟨wb, wo + i, none⟩ c1
              have p3 : ib < wl.heap.size := World.block_lt_of_cell? wl ⟨ib, io + i, none⟩ c3
              have p5 : sb < wl.heap.size := World.block_lt_of_cell? wl ⟨sb, so + i, none⟩ c5
              have K1 : ∀ W : World, Below wl.heap.size wl W → W.cell? ⟨wb, wo + i, none⟩ = some (.slice x.A x.n x.c) := fun W hW => (hW.cell (p := ⟨wb, wo + i, none⟩) p1).trans c1
              have K2 : ∀ W : World, Below wl.heap.size wl W → W.cell? ⟨wb, wo + k, none⟩ = some (.slice y.A y.n y.c) := fun W hW => (hW.cell (p := ⟨wb, wo + k, none⟩) p1).trans c2
              have K3 : ∀ W : World, Below wl.heap.size wl W → W.cell? ⟨ib, io + i, none⟩ = some (.slice x'.A x'.n x'.c) := fun W hW => (hW.cell (p := ⟨ib, io + i, none⟩) p3).trans c3
              have K4 : ∀ W : World, Below wl.heap.size wl W → W.cell? ⟨ib, io + k, none⟩ = some (.slice y'.A y'.n y'.c) := fun W hW => (hW.cell (p := ⟨ib, io + k, none⟩) p3).trans c4
              have K5 : ∀ W : World, Below wl.heap.size wl W → W.cell? ⟨sb, so + i, none⟩ = some (.string (strOfNums sx)) := fun W hW => (hW.cell (p := ⟨sb, so + i, none⟩) p5).trans c5
              have K6 : ∀ W : World, Below wl.heap.size wl W → W.cell? ⟨sb, so + k, none⟩ = some (.string (strOfNums sy)) := fun W hW => (hW.cell (p := ⟨sb, so + k, none⟩) p5).trans c6
              clear hx hy hx' hy' hsx hsy hz c1 c2 c3 c4 c5 c6 p1 p3 p5 hiM hkM hiN hkN HST hb1
              obtain ⟨WF, hWF⟩ : ∃ W, W = w5.drew := ⟨_, rfl⟩
              have hbF : Below wl.heap.size wl w5.drew := hb35.drew
              go_upto_region 34 with fail
              by_cases hst : sx = sy
              · obtain rfl : b1 = true := HBS.out.2 hst
                subst hst
                clear HBS
                refine wp_region_held_drew (S := (fun W => Below wl.heap.size wl W)) (by kernel_rfl) ?_ (fun hHeld => ?_)
                · exact hbF
                refine' wpAnyH_take (i := 0) (oi := _) (v := _) rfl (by kernel_rfl) (by kernel_rfl) (by kernel_rfl) (fun _ _ _ h => h) (Or.inl ⟨by rfl, ?hz71⟩) (by assumption) ?rezt71
                case hz71 => (intro w' hSw; (try dsimp only at hSw); go_simp; try with_reducible rfl)
                try simp only [Act.put, List.setIfInBounds_toArray, List.set_cons_zero, List.set_cons_succ, List.getElem_toArray, List.getElem_cons_zero, List.getElem_cons_succ]
                refine' wpAnyH_take (i := 1) (oi := _) (v := _) rfl (by kernel_rfl) (by kernel_rfl) (by kernel_rfl) (fun _ _ _ h => h) (Or.inl ⟨by rfl, ?hz72⟩) (by assumption) ?rezt72
                case hz72 => (intro w' hSw; (try dsimp only at hSw); go_simp; try with_reducible rfl)
                try simp only [Act.put, List.setIfInBounds_toArray, List.set_cons_zero, List.set_cons_succ, List.getElem_toArray, List.getElem_cons_zero, List.getElem_cons_succ]
                refine' wpAnyH_take (i := 2) (oi := _) (v := _) rfl (by kernel_rfl) (by kernel_rfl) (by kernel_rfl) (fun _ _ _ h => h) (Or.inl ⟨by rfl, ?hz73⟩) (by assumption) ?rezt73
                case hz73 => (intro w' hSw; (try dsimp only at hSw); go_simp; try with_reducible rfl)
                try simp only [Act.put, List.setIfInBounds_toArray, List.set_cons_zero, List.set_cons_succ, List.getElem_toArray, List.getElem_cons_zero, List.getElem_cons_succ]
                refine' wpAnyH_take (i := 3) (oi := _) (v := _) rfl (by kernel_rfl) (by kernel_rfl) (by kernel_rfl) (fun _ _ _ h => h) (Or.inl ⟨by rfl, ?hz74⟩) (by assumption) ?rezt74
                case hz74 => (intro w' hSw; (try dsimp only at hSw); go_simp; try with_reducible rfl)
                try simp only [Act.put, List.setIfInBounds_toArray, List.set_cons_zero, List.set_cons_succ, List.getElem_toArray, List.getElem_cons_zero, List.getElem_cons_succ]
                refine' wpAnyH_take (i := 4) (oi := _) (v := _) rfl (by kernel_rfl) (by kernel_rfl) (by kernel_rfl) (fun _ _ _ h => h) (Or.inl ⟨by rfl, ?hz75⟩) (by assumption) ?rezt75
                case hz75 => (intro w' hSw; (try dsimp only at hSw); go_simp; try with_reducible rfl)
                try simp only [Act.put, List.setIfInBounds_toArray, List.set_cons_zero, List.set_cons_succ, List.getElem_toArray, List.getElem_cons_zero, List.getElem_cons_succ]
                refine' wpAnyH_take (i := 5) (oi := _) (v := _) rfl (by kernel_rfl) (by kernel_rfl) (by kernel_rfl) (fun _ _ _ h => h) (Or.inl ⟨by rfl, ?hz76⟩) (by assumption) ?rezt76
                case hz76 => (intro w' hSw; (try dsimp only at hSw); go_simp; try with_reducible rfl)
                try simp only [Act.put, List.setIfInBounds_toArray, List.set_cons_zero, List.set_cons_succ, List.getElem_toArray, List.getElem_cons_zero, List.getElem_cons_succ]
                refine' wpAnyH_take (i := 6) (oi := _) (v := _) rfl (by kernel_rfl) (by kernel_rfl) (by kernel_rfl) (fun _ _ _ h => h) (Or.inl ⟨by rfl, ?hz77⟩) (by assumption) ?rezt77
                case hz77 => (intro w' hSw; (try dsimp only at hSw); go_simp; try with_reducible rfl)
                try simp only [Act.put, List.setIfInBounds_toArray, List.set_cons_zero, List.set_cons_succ, List.getElem_toArray, List.getElem_cons_zero, List.getElem_cons_succ]
                refine' wpAnyH_take (i := 7) (oi := _) (v := _) rfl (by kernel_rfl) (by kernel_rfl) (by kernel_rfl) (fun _ _ _ h => h) (Or.inl ⟨by rfl, ?hz78⟩) (by assumption) ?rezt78
                case hz78 => (intro w' hSw; (try dsimp only at hSw); go_simp; try with_reducible rfl)
                try simp only [Act.put, List.setIfInBounds_toArray, List.set_cons_zero, List.set_cons_succ, List.getElem_toArray, List.getElem_cons_zero, List.getElem_cons_succ]
                refine' wpAnyH_take (i := 8) (oi := _) (v := _) rfl (by kernel_rfl) (by kernel_rfl) (by kernel_rfl) (fun _ _ _ h => h) (Or.inl ⟨by rfl, ?hz79⟩) (by assumption) ?rezt79
                case hz79 => (intro w' hSw; (try dsimp only at hSw); go_simp; try with_reducible rfl)
                try simp only [Act.put, List.setIfInBounds_toArray, List.set_cons_zero, List.set_cons_succ, List.getElem_toArray, List.getElem_cons_zero, List.getElem_cons_succ]
                refine' wpAnyH_take (i := 10) (oi := _) (v := _) rfl (by kernel_rfl) (by kernel_rfl) (by kernel_rfl) (fun _ _ _ h => h) (Or.inl ⟨by rfl, ?hz80⟩) (by assumption) ?rezt80
                case hz80 => (intro w' hSw; (try dsimp only at hSw); go_simp; try with_reducible rfl)
                try simp only [Act.put, List.setIfInBounds_toArray, List.set_cons_zero, List.set_cons_succ, List.getElem_toArray, List.getElem_cons_zero, List.getElem_cons_succ]
                refine' wpAnyH_take (i := 11) (oi := _) (v := _) rfl (by kernel_rfl) (by kernel_rfl) (by kernel_rfl) (fun _ _ _ h => h) (Or.inl ⟨by rfl, ?hz81⟩) (by assumption) ?rezt81
                case hz81 => (intro w' hSw; (try dsimp only at hSw); go_simp; try with_reducible rfl)
                try simp only [Act.put, List.setIfInBounds_toArray, List.set_cons_zero, List.set_cons_succ, List.getElem_toArray, List.getElem_cons_zero, List.getElem_cons_succ]
                refine' wpAnyH_take (i := 12) (oi := _) (v := _) rfl (by kernel_rfl) (by kernel_rfl) (by kernel_rfl) (fun _ _ _ h => h) (Or.inl ⟨by rfl, ?hz82⟩) (by assumption) ?rezt82
                case hz82 => (intro w' hSw; (try dsimp only at hSw); go_simp; try with_reducible rfl)
                try simp only [Act.put, List.setIfInBounds_toArray, List.set_cons_zero, List.set_cons_succ, List.getElem_toArray, List.getElem_cons_zero, List.getElem_cons_succ]
                refine' wpAnyH_take (i := 13) (oi := _) (v := _) rfl (by kernel_rfl) (by kernel_rfl) (by kernel_rfl) (fun _ _ _ h => h) (Or.inl ⟨by rfl, ?hz83⟩) (by assumption) ?rezt83
                case hz83 => (intro w' hSw; (try dsimp only at hSw); go_simp; try with_reducible rfl)
                try simp only [Act.put, List.setIfInBounds_toArray, List.set_cons_zero, List.set_cons_succ, List.getElem_toArray, List.getElem_cons_zero, List.getElem_cons_succ]
                refine' wpAnyH_take (i := 14) (oi := _) (v := _) rfl (by kernel_rfl) (by kernel_rfl) (by kernel_rfl) (fun _ _ _ h => h) (Or.inl ⟨by rfl, ?hz84⟩) (by assumption) ?rezt84
                case hz84 => (intro w' hSw; (try dsimp only at hSw); go_simp; try with_reducible rfl)
                try simp only [Act.put, List.setIfInBounds_toArray, List.set_cons_zero, List.set_cons_succ, List.getElem_toArray, List.getElem_cons_zero, List.getElem_cons_succ]
                refine' wpAnyH_take (i := 15) (oi := _) (v := _) rfl (by kernel_rfl) (by kernel_rfl) (by kernel_rfl) (fun _ _ _ h => h) (Or.inl ⟨by rfl, ?hz85⟩) (by assumption) ?rezt85
                case hz85 => (intro w' hSw; (try dsimp only at hSw); go_simp; try with_reducible rfl)
                try simp only [Act.put, List.setIfInBounds_toArray, List.set_cons_zero, List.set_cons_succ, List.getElem_toArray, List.getElem_cons_zero, List.getElem_cons_succ]
                refine' wpAnyH_take (i := 16) (oi := _) (v := _) rfl (by kernel_rfl) (by kernel_rfl) (by kernel_rfl) (fun _ _ _ h => h) (Or.inl ⟨by rfl, ?hz86⟩) (by assumption) ?rezt86
                case hz86 => (intro w' hSw; (try dsimp only at hSw); go_simp; try with_reducible rfl)
                try simp only [Act.put, List.setIfInBounds_toArray, List.set_cons_zero, List.set_cons_succ, List.getElem_toArray, List.getElem_cons_zero, List.getElem_cons_succ]
                refine' wpAnyH_take (i := 17) (oi := _) (v := _) rfl (by kernel_rfl) (by kernel_rfl) (by kernel_rfl) (fun _ _ _ h => h) (Or.inl ⟨by rfl, ?hz87⟩) (by assumption) ?rezt87
                case hz87 => (intro w' hSw; (try dsimp only at hSw); go_simp; try with_reducible rfl)
                try simp only [Act.put, List.setIfInBounds_toArray, List.set_cons_zero, List.set_cons_succ, List.getElem_toArray, List.getElem_cons_zero, List.getElem_cons_succ]
                refine' wpAnyH_take (i := 18) (oi := _) (v := _) rfl (by kernel_rfl) (by kernel_rfl) (by kernel_rfl) (fun _ _ _ h => h) (Or.inl ⟨by rfl, ?hz88⟩) (by assumption) ?rezt88
                case hz88 => (intro w' hSw; (try dsimp only at hSw); go_simp; try with_reducible rfl)
                try simp only [Act.put, List.setIfInBounds_toArray, List.set_cons_zero, List.set_cons_succ, List.getElem_toArray, List.getElem_cons_zero, List.getElem_cons_succ]
                refine wpAnyH_ready (rs := [9]) (by kernel_rfl) (by simp) ?_
                refine AllReadyH.cons (o := _) rfl (fun K hK => ?_) AllReadyH.nil
                go_simp
                refine (HCW.out _ (by assumption)).mono ?_
                rintro e w6 ⟨rfl, hb6⟩
                have hb36 : Below wl.heap.size wl w6 := hbF.trans (hb6.mono hbF.size)
                clear hb6
                refine hK.out _ _ ?_ (fun hHeld => ?_)
                · exact hb36
                clear hK K
                try simp only [Act.put, List.setIfInBounds_toArray, List.set_cons_zero, List.set_cons_succ, List.getElem_toArray, List.getElem_cons_zero, List.getElem_cons_succ]
                refine wpAnyH_ready (rs := [19]) (by kernel_rfl) (by simp) ?_
                refine AllReadyH.cons (o := _) rfl (fun K hK => ?_) AllReadyH.nil
                go_simp
                refine (HCI.out _ (by assumption)).mono ?_
                rintro e w7 ⟨rfl, hb7⟩
                have hb37 : Below wl.heap.size wl w7 := hb36.trans (hb7.mono hb36.size)
                clear hb7
                refine hK.out _ _ ?_ (fun hHeld => ?_)
                · exact hb37
                clear hK K
                try simp only [Act.put, List.setIfInBounds_toArray, List.set_cons_zero, List.set_cons_succ, List.getElem_toArray, List.getElem_cons_zero, List.getElem_cons_succ]
                refine' wpAnyH_take (i := 20) (oi := _) (v := _) rfl (by kernel_rfl) (by kernel_rfl) (by kernel_rfl) (fun _ _ _ h => h) (Or.inl ⟨by rfl, ?hz89⟩) (by assumption) ?rezt89
                case hz89 => (intro w' hSw; (try dsimp only at hSw); go_simp; try with_reducible rfl)
                try simp only [Act.put, List.setIfInBounds_toArray, List.set_cons_zero, List.set_cons_succ, List.getElem_toArray, List.getElem_cons_zero, List.getElem_cons_succ]
                refine' wpAnyH_take (i := 21) (oi := _) (v := _) rfl (by kernel_rfl) (by kernel_rfl) (by kernel_rfl) (fun _ _ _ h => h) (Or.inl ⟨by rfl, ?hz90⟩) (by assumption) ?rezt90
                case hz90 => (intro w' hSw; (try dsimp only at hSw); go_simp; try with_reducible rfl)
                try simp only [Act.put, List.setIfInBounds_toArray, List.set_cons_zero, List.set_cons_succ, List.getElem_toArray, List.getElem_cons_zero, List.getElem_cons_succ]
                refine' wpAnyH_take (i := 22) (oi := _) (v := _) rfl (by kernel_rfl) (by kernel_rfl) (by kernel_rfl) (fun _ _ _ h => h) (Or.inl ⟨by rfl, ?hz91⟩) (by assumption) ?rezt91
                case hz91 => (intro w' hSw; (try dsimp only at hSw); go_simp; try with_reducible rfl)
                try simp only [Act.put, List.setIfInBounds_toArray, List.set_cons_zero, List.set_cons_succ, List.getElem_toArray, List.getElem_cons_zero, List.getElem_cons_succ]
                refine' wpAnyH_take (i := 23) (oi := _) (v := _) rfl (by kernel_rfl) (by kernel_rfl) (by kernel_rfl) (fun _ _ _ h => h) (Or.inl ⟨by rfl, ?hz92⟩) (by assumption) ?rezt92
                case hz92 => (intro w' hSw; (try dsimp only at hSw); go_simp; try with_reducible rfl)
                try simp only [Act.put, List.setIfInBounds_toArray, List.set_cons_zero, List.set_cons_succ, List.getElem_toArray, List.getElem_cons_zero, List.getElem_cons_succ]
                refine' wpAnyH_take (i := 24) (oi := _) (v := _) rfl (by kernel_rfl) (by kernel_rfl) (by kernel_rfl) (fun _ _ _ h => h) (Or.inl ⟨by rfl, ?hz93⟩) (by assumption) ?rezt93
                case hz93 => (intro w' hSw; (try dsimp only at hSw); go_simp; try with_reducible rfl)
                try simp only [Act.put, List.setIfInBounds_toArray, List.set_cons_zero, List.set_cons_succ, List.getElem_toArray, List.getElem_cons_zero, List.getElem_cons_succ]
                refine' wpAnyH_take (i := 25) (oi := _) (v := _) rfl (by kernel_rfl) (by kernel_rfl) (by kernel_rfl) (fun _ _ _ h => h) (Or.inl ⟨by rfl, ?hz94⟩) (by assumption) ?rezt94
                case hz94 => (intro w' hSw; (try dsimp only at hSw); go_simp; try with_reducible rfl)
                try simp only [Act.put, List.setIfInBounds_toArray, List.set_cons_zero, List.set_cons_succ, List.getElem_toArray, List.getElem_cons_zero, List.getElem_cons_succ]
                refine' wpAnyH_take (i := 26) (oi := _) (v := _) rfl (by kernel_rfl) (by kernel_rfl) (by kernel_rfl) (fun _ _ _ h => h) (Or.inl ⟨by rfl, ?hz95⟩) (by assumption) ?rezt95
                case hz95 => (intro w' hSw; (try dsimp only at hSw); go_simp; try with_reducible rfl)
                try simp only [Act.put, List.setIfInBounds_toArray, List.set_cons_zero, List.set_cons_succ, List.getElem_toArray, List.getElem_cons_zero, List.getElem_cons_succ]
                refine' wpAnyH_take (i := 27) (oi := _) (v := _) rfl (by kernel_rfl) (by kernel_rfl) (by kernel_rfl) (fun _ _ _ h => h) (Or.inl ⟨by rfl, ?hz96⟩) (by assumption) ?rezt96
                case hz96 => (intro w' hSw; (try dsimp only at hSw); go_simp; try with_reducible rfl)
                try simp only [Act.put, List.setIfInBounds_toArray, List.set_cons_zero, List.set_cons_succ, List.getElem_toArray, List.getElem_cons_zero, List.getElem_cons_succ]
                refine' wpAnyH_take (i := 28) (oi := _) (v := _) rfl (by kernel_rfl) (by kernel_rfl) (by kernel_rfl) (fun _ _ _ h => h) (Or.inl ⟨by rfl, ?hz97⟩) (by assumption) ?rezt97
                case hz97 => (intro w' hSw; (try dsimp only at hSw); go_simp; try with_reducible rfl)
                try simp only [Act.put, List.setIfInBounds_toArray, List.set_cons_zero, List.set_cons_succ, List.getElem_toArray, List.getElem_cons_zero, List.getElem_cons_succ]
                refine' wpAnyH_take (i := 29) (oi := _) (v := _) rfl (by kernel_rfl) (by kernel_rfl) (by kernel_rfl) (fun _ _ _ h => h) (Or.inl ⟨by rfl, ?hz98⟩) (by assumption) ?rezt98
                case hz98 => (intro w' hSw; (try dsimp only at hSw); go_simp; try with_reducible rfl)
                try simp only [Act.put, List.setIfInBounds_toArray, List.set_cons_zero, List.set_cons_succ, List.getElem_toArray, List.getElem_cons_zero, List.getElem_cons_succ]
                refine' wpAnyH_take (i := 30) (oi := _) (v := _) rfl (by kernel_rfl) (by kernel_rfl) (by kernel_rfl) (fun _ _ _ h => h) (Or.inl ⟨by rfl, ?hz99⟩) (by assumption) ?rezt99
                case hz99 => (intro w' hSw; (try dsimp only at hSw); go_simp; try with_reducible rfl)
                try simp only [Act.put, List.setIfInBounds_toArray, List.set_cons_zero, List.set_cons_succ, List.getElem_toArray, List.getElem_cons_zero, List.getElem_cons_succ]
                refine' wpAnyH_take (i := 31) (oi := _) (v := _) rfl (by kernel_rfl) (by kernel_rfl) (by kernel_rfl) (fun _ _ _ h => h) (Or.inl ⟨by rfl, ?hz100⟩) (by assumption) ?rezt100
                case hz100 => (intro w' hSw; (try dsimp only at hSw); go_simp; try with_reducible rfl)
                try simp only [Act.put, List.setIfInBounds_toArray, List.set_cons_zero, List.set_cons_succ, List.getElem_toArray, List.getElem_cons_zero, List.getElem_cons_succ]
                refine' wpAnyH_take (i := 32) (oi := _) (v := _) rfl (by kernel_rfl) (by kernel_rfl) (by kernel_rfl) (fun _ _ _ h => h) (Or.inl ⟨by rfl, ?hz101⟩) (by assumption) ?rezt101
                case hz101 => (intro w' hSw; (try dsimp only at hSw); go_simp; try with_reducible rfl)
                try simp only [Act.put, List.setIfInBounds_toArray, List.set_cons_zero, List.set_cons_succ, List.getElem_toArray, List.getElem_cons_zero, List.getElem_cons_succ]
                refine' wpAnyH_take (i := 33) (oi := _) (v := _) rfl (by kernel_rfl) (by kernel_rfl) (by kernel_rfl) (fun _ _ _ h => h) (Or.inl ⟨by rfl, ?hz102⟩) (by assumption) ?rezt102
                case hz102 => (intro w' hSw; (try dsimp only at hSw); go_simp; try with_reducible rfl)
                try simp only [Act.put, List.setIfInBounds_toArray, List.set_cons_zero, List.set_cons_succ, List.getElem_toArray, List.getElem_cons_zero, List.getElem_cons_succ]
                refine wpAnyH_done (by kernel_rfl) ?_ _
                go_wp2_with fail
                exact ⟨⟨k + 1, by omega, by go_num, by assumption⟩, by simp [intOf]; omega⟩
              · obtain rfl : b1 = false := by cases b1; rfl; exact absurd (HBS.out.1 rfl) hst
                have hsn : ((strOfNums sx).toList == (strOfNums sy).toList) = false := beq_eq_false_iff_ne.2 (str_ne HB1.out HB2.out hst)
                clear hst HBS
                refine wp_region_held_drew (S := (fun W => Below wl.heap.size wl W)) (by kernel_rfl) ?_ (fun hHeld => ?_)
                · exact hbF
                refine' wpAnyH_take (i := 0) (oi := _) (v := _) rfl (by kernel_rfl) (by kernel_rfl) (by kernel_rfl) (fun _ _ _ h => h) (Or.inl ⟨by rfl, ?hz103⟩) (by assumption) ?rezt103
                case hz103 => (intro w' hSw; (try dsimp only at hSw); go_simp; try with_reducible rfl)
                try simp only [Act.put, List.setIfInBounds_toArray, List.set_cons_zero, List.set_cons_succ, List.getElem_toArray, List.getElem_cons_zero, List.getElem_cons_succ]
                refine' wpAnyH_take (i := 1) (oi := _) (v := _) rfl (by kernel_rfl) (by kernel_rfl) (by kernel_rfl) (fun _ _ _ h => h) (Or.inl ⟨by rfl, ?hz104⟩) (by assumption) ?rezt104
                case hz104 => (intro w' hSw; (try dsimp only at hSw); go_simp; try with_reducible rfl)
                try simp only [Act.put, List.setIfInBounds_toArray, List.set_cons_zero, List.set_cons_succ, List.getElem_toArray, List.getElem_cons_zero, List.getElem_cons_succ]
                refine' wpAnyH_take (i := 2) (oi := _) (v := _) rfl (by kernel_rfl) (by kernel_rfl) (by kernel_rfl) (fun _ _ _ h => h) (Or.inl ⟨by rfl, ?hz105⟩) (by assumption) ?rezt105
                case hz105 => (intro w' hSw; (try dsimp only at hSw); go_simp; try with_reducible rfl)
                try simp only [Act.put, List.setIfInBounds_toArray, List.set_cons_zero, List.set_cons_succ, List.getElem_toArray, List.getElem_cons_zero, List.getElem_cons_succ]
                refine' wpAnyH_take (i := 3) (oi := _) (v := _) rfl (by kernel_rfl) (by kernel_rfl) (by kernel_rfl) (fun _ _ _ h => h) (Or.inl ⟨by rfl, ?hz106⟩) (by assumption) ?rezt106
                case hz106 => (intro w' hSw; (try dsimp only at hSw); go_simp; try with_reducible rfl)
                try simp only [Act.put, List.setIfInBounds_toArray, List.set_cons_zero, List.set_cons_succ, List.getElem_toArray, List.getElem_cons_zero, List.getElem_cons_succ]
                refine' wpAnyH_take (i := 4) (oi := _) (v := _) rfl (by kernel_rfl) (by kernel_rfl) (by kernel_rfl) (fun _ _ _ h => h) (Or.inl ⟨by rfl, ?hz107⟩) (by assumption) ?rezt107
                case hz107 => (intro w' hSw; (try dsimp only at hSw); go_simp; try with_reducible rfl)
                try simp only [Act.put, List.setIfInBounds_toArray, List.set_cons_zero, List.set_cons_succ, List.getElem_toArray, List.getElem_cons_zero, List.getElem_cons_succ]
                refine' wpAnyH_take (i := 5) (oi := _) (v := _) rfl (by kernel_rfl) (by kernel_rfl) (by kernel_rfl) (fun _ _ _ h => h) (Or.inl ⟨by rfl, ?hz108⟩) (by assumption) ?rezt108
                case hz108 => (intro w' hSw; (try dsimp only at hSw); go_simp; try with_reducible rfl)
                try simp only [Act.put, List.setIfInBounds_toArray, List.set_cons_zero, List.set_cons_succ, List.getElem_toArray, List.getElem_cons_zero, List.getElem_cons_succ]
                refine' wpAnyH_take (i := 6) (oi := _) (v := _) rfl (by kernel_rfl) (by kernel_rfl) (by kernel_rfl) (fun _ _ _ h => h) (Or.inl ⟨by rfl, ?hz109⟩) (by assumption) ?rezt109
                case hz109 => (intro w' hSw; (try dsimp only at hSw); go_simp; try with_reducible rfl)
                try simp only [Act.put, List.setIfInBounds_toArray, List.set_cons_zero, List.set_cons_succ, List.getElem_toArray, List.getElem_cons_zero, List.getElem_cons_succ]
                refine' wpAnyH_take (i := 7) (oi := _) (v := _) rfl (by kernel_rfl) (by kernel_rfl) (by kernel_rfl) (fun _ _ _ h => h) (Or.inl ⟨by rfl, ?hz110⟩) (by assumption) ?rezt110
                case hz110 => (intro w' hSw; (try dsimp only at hSw); go_simp; try with_reducible rfl)
                try simp only [Act.put, List.setIfInBounds_toArray, List.set_cons_zero, List.set_cons_succ, List.getElem_toArray, List.getElem_cons_zero, List.getElem_cons_succ]
                refine' wpAnyH_take (i := 8) (oi := _) (v := _) rfl (by kernel_rfl) (by kernel_rfl) (by kernel_rfl) (fun _ _ _ h => h) (Or.inl ⟨by rfl, ?hz111⟩) (by assumption) ?rezt111
                case hz111 => (intro w' hSw; (try dsimp only at hSw); go_simp; try with_reducible rfl)
                try simp only [Act.put, List.setIfInBounds_toArray, List.set_cons_zero, List.set_cons_succ, List.getElem_toArray, List.getElem_cons_zero, List.getElem_cons_succ]
                refine' wpAnyH_take (i := 10) (oi := _) (v := _) rfl (by kernel_rfl) (by kernel_rfl) (by kernel_rfl) (fun _ _ _ h => h) (Or.inl ⟨by rfl, ?hz112⟩) (by assumption) ?rezt112
                case hz112 => (intro w' hSw; (try dsimp only at hSw); go_simp; try with_reducible rfl)
                try simp only [Act.put, List.setIfInBounds_toArray, List.set_cons_zero, List.set_cons_succ, List.getElem_toArray, List.getElem_cons_zero, List.getElem_cons_succ]
                refine' wpAnyH_take (i := 11) (oi := _) (v := _) rfl (by kernel_rfl) (by kernel_rfl) (by kernel_rfl) (fun _ _ _ h => h) (Or.inl ⟨by rfl, ?hz113⟩) (by assumption) ?rezt113
                case hz113 => (intro w' hSw; (try dsimp only at hSw); go_simp; try with_reducible rfl)
                try simp only [Act.put, List.setIfInBounds_toArray, List.set_cons_zero, List.set_cons_succ, List.getElem_toArray, List.getElem_cons_zero, List.getElem_cons_succ]
                refine' wpAnyH_take (i := 12) (oi := _) (v := _) rfl (by kernel_rfl) (by kernel_rfl) (by kernel_rfl) (fun _ _ _ h => h) (Or.inl ⟨by rfl, ?hz114⟩) (by assumption) ?rezt114
                case hz114 => (intro w' hSw; (try dsimp only at hSw); go_simp; try with_reducible rfl)
                try simp only [Act.put, List.setIfInBounds_toArray, List.set_cons_zero, List.set_cons_succ, List.getElem_toArray, List.getElem_cons_zero, List.getElem_cons_succ]
                refine' wpAnyH_take (i := 13) (oi := _) (v := _) rfl (by kernel_rfl) (by kernel_rfl) (by kernel_rfl) (fun _ _ _ h => h) (Or.inl ⟨by rfl, ?hz115⟩) (by assumption) ?rezt115
                case hz115 => (intro w' hSw; (try dsimp only at hSw); go_simp; try with_reducible rfl)
                try simp only [Act.put, List.setIfInBounds_toArray, List.set_cons_zero, List.set_cons_succ, List.getElem_toArray, List.getElem_cons_zero, List.getElem_cons_succ]
                refine' wpAnyH_take (i := 14) (oi := _) (v := _) rfl (by kernel_rfl) (by kernel_rfl) (by kernel_rfl) (fun _ _ _ h => h) (Or.inl ⟨by rfl, ?hz116⟩) (by assumption) ?rezt116
                case hz116 => (intro w' hSw; (try dsimp only at hSw); go_simp; try with_reducible rfl)
                try simp only [Act.put, List.setIfInBounds_toArray, List.set_cons_zero, List.set_cons_succ, List.getElem_toArray, List.getElem_cons_zero, List.getElem_cons_succ]
                refine' wpAnyH_take (i := 15) (oi := _) (v := _) rfl (by kernel_rfl) (by kernel_rfl) (by kernel_rfl) (fun _ _ _ h => h) (Or.inl ⟨by rfl, ?hz117⟩) (by assumption) ?rezt117
                case hz117 => (intro w' hSw; (try dsimp only at hSw); go_simp; try with_reducible rfl)
                try simp only [Act.put, List.setIfInBounds_toArray, List.set_cons_zero, List.set_cons_succ, List.getElem_toArray, List.getElem_cons_zero, List.getElem_cons_succ]
                refine' wpAnyH_take (i := 16) (oi := _) (v := _) rfl (by kernel_rfl) (by kernel_rfl) (by kernel_rfl) (fun _ _ _ h => h) (Or.inl ⟨by rfl, ?hz118⟩) (by assumption) ?rezt118
                case hz118 => (intro w' hSw; (try dsimp only at hSw); go_simp; try with_reducible rfl)
                try simp only [Act.put, List.setIfInBounds_toArray, List.set_cons_zero, List.set_cons_succ, List.getElem_toArray, List.getElem_cons_zero, List.getElem_cons_succ]
                refine' wpAnyH_take (i := 17) (oi := _) (v := _) rfl (by kernel_rfl) (by kernel_rfl) (by kernel_rfl) (fun _ _ _ h => h) (Or.inl ⟨by rfl, ?hz119⟩) (by assumption) ?rezt119
                case hz119 => (intro w' hSw; (try dsimp only at hSw); go_simp; try with_reducible rfl)
                try simp only [Act.put, List.setIfInBounds_toArray, List.set_cons_zero, List.set_cons_succ, List.getElem_toArray, List.getElem_cons_zero, List.getElem_cons_succ]
                refine' wpAnyH_take (i := 18) (oi := _) (v := _) rfl (by kernel_rfl) (by kernel_rfl) (by kernel_rfl) (fun _ _ _ h => h) (Or.inl ⟨by rfl, ?hz120⟩) (by assumption) ?rezt120
                case hz120 => (intro w' hSw; (try dsimp only at hSw); go_simp; try with_reducible rfl)
                try simp only [Act.put, List.setIfInBounds_toArray, List.set_cons_zero, List.set_cons_succ, List.getElem_toArray, List.getElem_cons_zero, List.getElem_cons_succ]
                refine wpAnyH_ready (rs := [9]) (by kernel_rfl) (by simp) ?_
                refine AllReadyH.cons (o := _) rfl (fun K hK => ?_) AllReadyH.nil
                go_simp
                refine (HCW.out _ (by assumption)).mono ?_
                rintro e w6 ⟨rfl, hb6⟩
                have hb36 : Below wl.heap.size wl w6 := hbF.trans (hb6.mono hbF.size)
                clear hb6
                refine hK.out _ _ ?_ (fun hHeld => ?_)
                · exact hb36
                clear hK K
                try simp only [Act.put, List.setIfInBounds_toArray, List.set_cons_zero, List.set_cons_succ, List.getElem_toArray, List.getElem_cons_zero, List.getElem_cons_succ]
                refine wpAnyH_ready (rs := [19]) (by kernel_rfl) (by simp) ?_
                refine AllReadyH.cons (o := _) rfl (fun K hK => ?_) AllReadyH.nil
                go_simp
                refine (HCI.out _ (by assumption)).mono ?_
                rintro e w7 ⟨rfl, hb7⟩
                have hb37 : Below wl.heap.size wl w7 := hb36.trans (hb7.mono hb36.size)
                clear hb7
                refine hK.out _ _ ?_ (fun hHeld => ?_)
                · exact hb37
                clear hK K
                try simp only [Act.put, List.setIfInBounds_toArray, List.set_cons_zero, List.set_cons_succ, List.getElem_toArray, List.getElem_cons_zero, List.getElem_cons_succ]
                refine' wpAnyH_take (i := 20) (oi := _) (v := _) rfl (by kernel_rfl) (by kernel_rfl) (by kernel_rfl) (fun _ _ _ h => h) (Or.inl ⟨by rfl, ?hz121⟩) (by assumption) ?rezt121
                case hz121 => (intro w' hSw; (try dsimp only at hSw); go_simp; try with_reducible rfl)
                try simp only [Act.put, List.setIfInBounds_toArray, List.set_cons_zero, List.set_cons_succ, List.getElem_toArray, List.getElem_cons_zero, List.getElem_cons_succ]
                refine' wpAnyH_take (i := 21) (oi := _) (v := _) rfl (by kernel_rfl) (by kernel_rfl) (by kernel_rfl) (fun _ _ _ h => h) (Or.inl ⟨by rfl, ?hz122⟩) (by assumption) ?rezt122
                case hz122 => (intro w' hSw; (try dsimp only at hSw); go_simp; try with_reducible rfl)
                try simp only [Act.put, List.setIfInBounds_toArray, List.set_cons_zero, List.set_cons_succ, List.getElem_toArray, List.getElem_cons_zero, List.getElem_cons_succ]
                refine' wpAnyH_take (i := 22) (oi := _) (v := _) rfl (by kernel_rfl) (by kernel_rfl) (by kernel_rfl) (fun _ _ _ h => h) (Or.inl ⟨by rfl, ?hz123⟩) (by assumption) ?rezt123
                case hz123 => (intro w' hSw; (try dsimp only at hSw); go_simp; try with_reducible rfl)
                try simp only [Act.put, List.setIfInBounds_toArray, List.set_cons_zero, List.set_cons_succ, List.getElem_toArray, List.getElem_cons_zero, List.getElem_cons_succ]
                refine' wpAnyH_take (i := 23) (oi := _) (v := _) rfl (by kernel_rfl) (by kernel_rfl) (by kernel_rfl) (fun _ _ _ h => h) (Or.inl ⟨by rfl, ?hz124⟩) (by assumption) ?rezt124
                case hz124 => (intro w' hSw; (try dsimp only at hSw); go_simp; try with_reducible rfl)
                try simp only [Act.put, List.setIfInBounds_toArray, List.set_cons_zero, List.set_cons_succ, List.getElem_toArray, List.getElem_cons_zero, List.getElem_cons_succ]
                refine' wpAnyH_take (i := 24) (oi := _) (v := _) rfl (by kernel_rfl) (by kernel_rfl) (by kernel_rfl) (fun _ _ _ h => h) (Or.inl ⟨by rfl, ?hz125⟩) (by assumption) ?rezt125
                case hz125 => (intro w' hSw; (try dsimp only at hSw); go_simp; try with_reducible rfl)
                try simp only [Act.put, List.setIfInBounds_toArray, List.set_cons_zero, List.set_cons_succ, List.getElem_toArray, List.getElem_cons_zero, List.getElem_cons_succ]
                refine' wpAnyH_take (i := 25) (oi := _) (v := _) rfl (by kernel_rfl) (by kernel_rfl) (by kernel_rfl) (fun _ _ _ h => h) (Or.inl ⟨by rfl, ?hz126⟩) (by assumption) ?rezt126
                case hz126 => (intro w' hSw; (try dsimp only at hSw); go_simp; try with_reducible rfl)
                try simp only [Act.put, List.setIfInBounds_toArray, List.set_cons_zero, List.set_cons_succ, List.getElem_toArray, List.getElem_cons_zero, List.getElem_cons_succ]
                refine' wpAnyH_take (i := 26) (oi := _) (v := _) rfl (by kernel_rfl) (by kernel_rfl) (by kernel_rfl) (fun _ _ _ h => h) (Or.inl ⟨by rfl, ?hz127⟩) (by assumption) ?rezt127
                case hz127 => (intro w' hSw; (try dsimp only at hSw); go_simp; try with_reducible rfl)
                try simp only [Act.put, List.setIfInBounds_toArray, List.set_cons_zero, List.set_cons_succ, List.getElem_toArray, List.getElem_cons_zero, List.getElem_cons_succ]
                refine' wpAnyH_take (i := 27) (oi := _) (v := _) rfl (by kernel_rfl) (by kernel_rfl) (by kernel_rfl) (fun _ _ _ h => h) (Or.inl ⟨by rfl, ?hz128⟩) (by assumption) ?rezt128
                case hz128 => (intro w' hSw; (try dsimp only at hSw); go_simp; try with_reducible rfl)
                try simp only [Act.put, List.setIfInBounds_toArray, List.set_cons_zero, List.set_cons_succ, List.getElem_toArray, List.getElem_cons_zero, List.getElem_cons_succ]
                refine' wpAnyH_take (i := 28) (oi := _) (v := _) rfl (by kernel_rfl) (by kernel_rfl) (by kernel_rfl) (fun _ _ _ h => h) (Or.inl ⟨by rfl, ?hz129⟩) (by assumption) ?rezt129
                case hz129 => (intro w' hSw; (try dsimp only at hSw); go_simp; try with_reducible rfl)
                try simp only [Act.put, List.setIfInBounds_toArray, List.set_cons_zero, List.set_cons_succ, List.getElem_toArray, List.getElem_cons_zero, List.getElem_cons_succ]
                refine' wpAnyH_take (i := 29) (oi := _) (v := _) rfl (by kernel_rfl) (by kernel_rfl) (by kernel_rfl) (fun _ _ _ h => h) (Or.inl ⟨by rfl, ?hz130⟩) (by assumption) ?rezt130
                case hz130 => (intro w' hSw; (try dsimp only at hSw); go_simp; try with_reducible rfl)
                try simp only [Act.put, List.setIfInBounds_toArray, List.set_cons_zero, List.set_cons_succ, List.getElem_toArray, List.getElem_cons_zero, List.getElem_cons_succ]
                refine' wpAnyH_take (i := 30) (oi := _) (v := _) rfl (by kernel_rfl) (by kernel_rfl) (by kernel_rfl) (fun _ _ _ h => h) (Or.inl ⟨by rfl, ?hz131⟩) (by assumption) ?rezt131
                case hz131 => (intro w' hSw; (try dsimp only at hSw); go_simp; try with_reducible rfl)
                try simp only [Act.put, List.setIfInBounds_toArray, List.set_cons_zero, List.set_cons_succ, List.getElem_toArray, List.getElem_cons_zero, List.getElem_cons_succ]
                refine' wpAnyH_take (i := 31) (oi := _) (v := _) rfl (by kernel_rfl) (by kernel_rfl) (by kernel_rfl) (fun _ _ _ h => h) (Or.inl ⟨by rfl, ?hz132⟩) (by assumption) ?rezt132
                case hz132 => (intro w' hSw; (try dsimp only at hSw); go_simp; try with_reducible rfl)
                try simp only [Act.put, List.setIfInBounds_toArray, List.set_cons_zero, List.set_cons_succ, List.getElem_toArray, List.getElem_cons_zero, List.getElem_cons_succ]
                refine' wpAnyH_take (i := 32) (oi := _) (v := _) rfl (by kernel_rfl) (by kernel_rfl) (by kernel_rfl) (fun _ _ _ h => h) (Or.inl ⟨by rfl, ?hz133⟩) (by assumption) ?rezt133
                case hz133 => (intro w' hSw; (try dsimp only at hSw); go_simp; try with_reducible rfl)
                try simp only [Act.put, List.setIfInBounds_toArray, List.set_cons_zero, List.set_cons_succ, List.getElem_toArray, List.getElem_cons_zero, List.getElem_cons_succ]
                refine' wpAnyH_take (i := 33) (oi := _) (v := _) rfl (by kernel_rfl) (by kernel_rfl) (by kernel_rfl) (fun _ _ _ h => h) (Or.inl ⟨by rfl, ?hz134⟩) (by assumption) ?rezt134
                case hz134 => (intro w' hSw; (try dsimp only at hSw); go_simp; try with_reducible rfl)
                try simp only [Act.put, List.setIfInBounds_toArray, List.set_cons_zero, List.set_cons_succ, List.getElem_toArray, List.getElem_cons_zero, List.getElem_cons_succ]
                refine wpAnyH_done (by kernel_rfl) ?_ _
                go_wp2_with fail
                exact ⟨⟨k + 1, by omega, by go_num, by assumption⟩, by simp [intOf]; omega⟩
            · obtain rfl : k = m := by omega
              go_wp2_with fail
              go_roundw
              case rel => exact ⟨i + 1, by omega, by go_num, hb4⟩
              case measure => simp [intOf]; omega
        · obtain rfl : i = m := by omega
          have HS1 := Lib.hid (osort_any w3 (some ⟨wb, wo, none⟩) i wc M C t e0 ks HLM.out hmp (by omega) (HRW.out.keep hb3) (fun r hr => Nat.le_trans (HM64.out r hr) (by omega)) HT.out (by omega) (HCL.out.keep hb3) HK.out _ rfl)
          go_wp2_with fail
          refine HS1.out.mono ?_
          rintro e w4 ⟨X, XA, xc, rfl, hX, hrX, hvX, hb4⟩
          have hb4' : Below wl.heap.size wl w4 := hb3.trans (hb4.mono hb3.size)
          have HS2 := Lib.hid (osort_any w4 (some ⟨ib, io, none⟩) i ic N C t e0 ks HLN.out hmp (by omega) (HRI.out.keep hb4') HSH.out HT.out (by omega) (HCL.out.keep hb4') HK.out _ rfl)
          have HX := Lib.hid hX
          have HRX := Lib.hid hrX
          have HVX := Lib.hid hvX
          clear hX hrX hvX hb4
          go_wp2_with fail
          refine HS2.out.mono ?_
          rintro e w5 ⟨Y, YA, yc, rfl, hY, hrY, hvY, hb5⟩
          have hb5' : Below wl.heap.size wl w5 := hb4'.trans (hb5.mono hb4'.size)
          have HS3 := Lib.hid (osame_any w5 XA YA i xc i yc X Y HX.out hY (by unfold maxLen; omega) (by unfold maxLen; omega) (HRX.out.keep hb5) hrY)
          have HEV := Lib.hid (show valsOf X = valsOf Y by rw [HVX.out, hvY, HGA.out.1])
          clear hY hrY hvY hb5
          go_wp2_with fail
          refine HS3.out.mono ?_
          rintro e w6 ⟨bz, rfl, hbz, hb6⟩
          obtain rfl : bz = true := hbz.2 HEV.out
          go_wp2_with fail
          first | go_ret | skip
          exact ⟨rfl, hb.trans ((hb5'.trans (hb6.mono hb5'.size)).mono hb.size)⟩
end Go.Proofs.Ytbbdglikdogmhaa
