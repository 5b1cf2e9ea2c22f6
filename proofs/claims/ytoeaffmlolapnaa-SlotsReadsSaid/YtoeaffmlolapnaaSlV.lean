/- Walks over a page: sound, Of. -/
import Derived.Test.YtoeaffmlolapnaaSlU
import Derived.Test.YtoeaffmlolapnaaSlR
namespace Go.Proofs.Ytoeaffmlolapnaa
open Go.RowKit
set_option maxRecDepth 100000
set_option linter.unusedVariables false
set_option linter.unusedSimpArgs false
set_option linter.unnecessarySimpa false

theorem info_int9 : (Try.prog.info? 3).map (fun i => (i.zero, i.size, i.bytes)) = some (some (.int .i64 0), 1, 8) := by kernel_rfl
def zri (n : Nat) : Array Value := madeCells (Value.cells (.int .i64 0)) n
theorem run_mki (n : Nat) (hn : n ≤ 100000) (w : World) :
    (Instr.makeSlice 31 (.int .i64 (n : Int)) (.int .i64 (n : Int))).run Try.prog w = .ok (.slice (some ⟨w.heap.size, 0, none⟩) n n) (w.alloc (.cells (zri n) 3)) := by
  obtain ⟨i, hi, hz, hsz, hby⟩ := info_parts info_int9
  have h := run_make (P := Try.prog) w 31 3 i (.int .i64 0) Try.underlying31 hi hz .i64 .i64 n n (by omega) (by omega) (by rw [hby]; omega) (by omega)
  simpa [hsz, zri] using h
theorem zri_get {n i : Nat} (h : i < n) : (zri n)[i]? = some (.int .i64 0) := by
  simp [zri, madeCells, Value.cells, h, Nat.mod_one]
/-- A row of ints. -/
def IRow (w : World) (g n : Nat) (f : Nat → Nat) : Prop := ∀ x, x < n → w.cell? ⟨g, x, none⟩ = some (.int .i64 (f x : Int)) ∧ w.frozen? ⟨g, x, none⟩ = false
theorem IRow.made (w : World) (n : Nat) : IRow (w.alloc (.cells (zri n) 3)) w.heap.size n (fun _ => 0) := fun x hx => by
  refine ⟨?_, ?_⟩
  · rw [heap_cell (heap_alloc_new w _), zri_get hx]; rfl
  · simp [go_sem]
theorem IRow.keep {w w' : World} {g n : Nat} {f : Nat → Nat} (h : IRow w g n f) (hb : Below w.heap.size w w') : IRow w' g n f := fun x hx => by
  obtain ⟨h1, h2⟩ := h x hx
  have hlt : g < w.heap.size := World.block_lt_of_cell? w ⟨g, x, none⟩ h1
  exact ⟨(hb.cell (p := ⟨g, x, none⟩) hlt).trans h1, (hb.frozen (p := ⟨g, x, none⟩) hlt).trans h2⟩
theorem IRow.set {w : World} {g n : Nat} {f : Nat → Nat} (h : IRow w g n f) {k : Nat} (hk : k < n) (v : Nat) : IRow (w.setCell ⟨g, k, none⟩ (.int .i64 (v : Int))) g n (fun x => if x = k then v else f x) := fun x hx => by
  obtain ⟨h1, h2⟩ := h x hx
  refine ⟨?_, by rw [World.frozen?_setCell]; exact h2⟩
  dsimp only
  by_cases e : x = k
  · subst e
    rw [if_pos rfl]
    exact World.cell?_setCell_same _ _ _ h1
  · rw [if_neg e, World.cell?_setCell_other _ _ _ _ (by first | (simp; done) | (simp; omega))]
    exact h1
theorem IRow.congr {w : World} {g n : Nat} {f f' : Nat → Nat} (h : IRow w g n f) (e : ∀ x, x < n → f x = f' x) : IRow w g n f' := fun x hx => by rw [← e x hx]; exact h x hx

/-- How often so far: whole cells, and one in part. -/
def cntK (L : List Int) (h j k x : Nat) : Nat := cnt L h j x + if pOf L h j ≤ x ∧ x < k then 1 else 0
def SRel (w : World) (L : List Int) (h go : Nat) (i : Value) (wr : World) : Prop :=
  ∃ j : Nat, j ≤ kOf L h ∧ i = .int .i64 j ∧ IRow wr go L.length (cnt L h j) ∧ Below w.heap.size w wr ∧ Hid (∀ t, t < j → h + 2 + 2 * kOf L h ≤ pOf L h t ∧ pOf L h t + 2 + lOf L (pOf L h t) ≤ L.length)
def SRel2 (w : World) (L : List Int) (h go j : Nat) (kv : Value) (wr : World) : Prop :=
  ∃ k : Nat, pOf L h j ≤ k ∧ k ≤ pOf L h j + 2 + lOf L (pOf L h j) ∧ kv = .int .i64 k ∧ IRow wr go L.length (cntK L h j k) ∧ Below w.heap.size w wr
def SoundBack (w : World) (L : List Int) (h : Nat) (e : Ending) (w' : World) : Prop := ∃ b : Bool, e = .returned (.bool b) ∧ (b = true ↔ ofP L h) ∧ Below w.heap.size w w'

set_option maxHeartbeats 32000000 in
theorem psound_any (w : World) (g gb c h : Nat) (L : List Int) (X : List Value) (hp : Pg w g gb c h L X) (hm : mayP (L.length : Int) (h : Int)) (R : Ending → World → Prop) (hR : R = SoundBack w L h) :
    Calls Try.prog 64 #[.pointer (some ⟨g, 0, none⟩)] w R := by
  have HR := Lib.hid hR; clear hR
  have HP := Lib.hid hp
  have HMY := Lib.hid hm
  obtain ⟨n0, n1, _, h1⟩ := hm
  obtain ⟨n, hn⟩ : ∃ n, L.length = n := ⟨_, rfl⟩
  have HN := Lib.hid hn
  rw [hn] at n0 n1
  have hbs := hp.byts
  have HB := Lib.hid hbs
  have hkk := tw_nat hbs h
  have hkb := tw_bd hbs h
  obtain ⟨K, hK⟩ : ∃ K, kOf L h = K := ⟨_, rfl⟩
  have HK := Lib.hid hK
  have hKt : tw L h = (K : Int) := by rw [← hK]; exact hkk
  have HKT := Lib.hid hKt
  rw [hKt] at hkb
  have no : ∀ W : World, ¬ ofP L h → Below w.heap.size w W → R (.returned (.bool false)) W := fun W h2 h3 => by
    rw [HR.out]
    exact ⟨false, rfl, by simp [h2], h3⟩
  have HNO := Lib.hid no
  clear no hkk hKt hK hn hbs hp
  have hh : (h : Int) ≤ 64 := h1
  have m0 := HP.out.m0
  rw [HN.out] at m0
  have hlc := HP.out.len
  rw [HN.out] at hlc
  go_enter Try.func64, Try.ntmps64
  go_wp2_with fail
  refine (pmany_any _ g gb c h L X HP.out (by rw [HN.out]; omega)).mono ?_
  rintro e w1 ⟨rfl, rfl⟩
  rw [HKT.out]
  go_wp2_with fail
  refine (pslot_any _ g gb c h L X HP.out (by omega) (K : Int) (by omega) (by omega)).mono ?_
  rintro e w1 ⟨rfl, rfl⟩
  by_cases hend : (n : Int) < (h : Int) + 2 + 2 * (K : Int)
  · have HF := Lib.hid (show ¬ ofP L h from fun o => by have := of_front (by rw [HN.out]; omega) o; rw [HK.out, HN.out] at this; omega)
    go_wp2
    exact HNO.out _ HF.out (Below.refl _ _)
  have hfit : h + 2 + 2 * K ≤ n := by omega
  have hmk := run_mki n (by omega)
  go_upto_region 5 with fail
  obtain ⟨W1, hW1⟩ : ∃ W, W = w.alloc (.cells (zri n) 3) := ⟨_, rfl⟩
  have hb1 : Below w.heap.size w W1 := by rw [hW1]; exact (Below.refl _ _).alloc (Nat.le_refl _) _
  have HI1 := Lib.hid (show IRow W1 w.heap.size L.length (cnt L h 0) by rw [hW1, HN.out]; exact (IRow.made w n).congr fun _ _ => rfl)
  have HP1 := Lib.hid (HP.out.keep hb1)
  rw [← hW1]
  clear hW1 hmk m0
  have m1 := HP1.out.m0
  rw [HN.out] at m1
  go_wp2_with fail
  refine (pmany_any _ g gb c h L X HP1.out (by rw [HN.out]; omega)).mono ?_
  rintro e w1 ⟨rfl, rfl⟩
  rw [HKT.out]
  clear m1
  go_wp2_with fail
  go_loopw [30] (SRel w L h w.heap.size) (fun i _ => K - (intOf i).toNat)
  case atStart => exact ⟨0, Nat.zero_le _, rfl, HI1.out, hb1, Lib.hid (fun t ht => by omega)⟩
  case round =>
    obtain ⟨j, hj, rfl, hir, hb, HT⟩ := hrel
    have HIR := Lib.hid hir
    have HPj := Lib.hid (HP.out.keep hb)
    rw [HK.out] at hj
    clear hir
    by_cases hlt : j < K
    · have hlt' : (j : Int) < (K : Int) := by omega
      have hpt := tw_nat HB.out (h + 2 + 2 * j)
      have hpb := tw_bd HB.out (h + 2 + 2 * j)
      obtain ⟨q, hq⟩ : ∃ q, pOf L h j = q := ⟨_, rfl⟩
      have hqt : tw L (h + 2 + 2 * j) = (q : Int) := by rw [← hq]; exact hpt
      have HQT := Lib.hid hqt
      have HQ := Lib.hid hq
      rw [hqt] at hpb
      have m1 := HPj.out.m0
      rw [HN.out] at m1
      have hj7 : (j : Int) ≤ 70000 := by omega
      clear hpt hqt hq
      go_wp2_with fail
      refine (pslot_any _ g gb c h L X HPj.out (by omega) (j : Int) (by omega) hj7).mono ?_
      rintro e w2 ⟨rfl, rfl⟩
      rw [show (h : Int) + 2 + 2 * (j : Int) = ((h + 2 + 2 * j : Nat) : Int) by omega]
      go_wp2_with fail
      refine (pnum_any _ g gb c h L X HPj.out (h + 2 + 2 * j) (by rw [HN.out]; omega)).mono ?_
      rintro e w2 ⟨rfl, rfl⟩
      rw [HQT.out]
      have hjK : j < kOf L h := by rw [HK.out]; exact hlt
      by_cases hlo : (q : Int) < (h : Int) + 2 + 2 * (K : Int)
      · have HF := Lib.hid (show ¬ ofP L h from fun o => by have := (of_cell HB.out (by rw [HN.out]; omega) o hjK).1; rw [HK.out, HQ.out] at this; omega)
        go_wp2
        exact HNO.out _ HF.out hb
      by_cases hhi : (n : Int) < (q : Int) + 2
      · have HF := Lib.hid (show ¬ ofP L h from fun o => by have := (of_cell HB.out (by rw [HN.out]; omega) o hjK).2; rw [HQ.out, HN.out] at this; omega)
        go_wp2
        exact HNO.out _ HF.out hb
      have hlt2 := tw_nat HB.out q
      have hlb := tw_bd HB.out q
      obtain ⟨m, hm⟩ : ∃ m, lOf L q = m := ⟨_, rfl⟩
      have hmt : tw L q = (m : Int) := by rw [← hm]; exact hlt2
      have HMT := Lib.hid hmt
      have HM := Lib.hid hm
      rw [hmt] at hlb
      clear hlt2 hmt hm
      go_wp2_with fail
      refine (pspan_any _ g gb c h L X HPj.out (by omega) j q (by rw [HN.out]; omega) (by rw [HN.out]; omega) HQT.out (by rw [HN.out]; omega)).mono ?_
      rintro e w2 ⟨rfl, rfl⟩
      rw [HMT.out]
      by_cases hto : (n : Int) < (q : Int) + 2 + (m : Int)
      · have HF := Lib.hid (show ¬ ofP L h from fun o => by have := (of_cell HB.out (by rw [HN.out]; omega) o hjK).2; rw [HQ.out, HM.out, HN.out] at this; omega)
        go_wp2
        exact HNO.out _ HF.out hb
      go_wp2_with fail
      clear m1
      go_loopw [9] (SRel2 w L h w.heap.size j) (fun i _ => q + 2 + m - (intOf i).toNat)
      case atStart =>
        refine ⟨q, by rw [HQ.out]; exact Nat.le_refl _, by rw [HQ.out]; omega, rfl, HIR.out.congr fun x hx => ?_, hb⟩
        unfold cntK
        rw [HQ.out, if_neg (by omega)]; rfl
      case round =>
        obtain ⟨k, hk1, hk2, rfl, hir, hb2⟩ := hrel
        rw [HQ.out] at hk1
        rw [HQ.out, HM.out] at hk2
        have HIR2 := Lib.hid hir
        clear hir
        by_cases hkt : k < q + 2 + m
        · have hkt' : (k : Int) < (q : Int) + 2 + (m : Int) := by omega
          have hkn : k < L.length := by rw [HN.out]; omega
          obtain ⟨c0, f0⟩ := HIR2.out k hkn
          have hcl : cntK L h j k k ≤ j := by
            unfold cntK
            rw [if_neg (by omega), Nat.add_zero]
            exact cnt_le _ _ _ _
          obtain ⟨v, hv⟩ : ∃ v, cntK L h j k k = v := ⟨_, rfl⟩
          have HV := Lib.hid hv
          rw [hv] at c0 hcl
          have i0 : (0 : Int) ≤ (k : Int) := by omega
          have i1 : (k : Int) < (n : Int) := by omega
          have hv1 : (v : Int) ≤ 65535 := by omega
          clear hv
          go_wp2_with fail
          go_roundw
          case rel =>
            have hset := HIR2.out.set hkn (v + 1)
            rw [Int.natCast_add] at hset
            refine ⟨k + 1, by rw [HQ.out]; omega, by rw [HQ.out, HM.out]; omega, by go_num, hset.congr fun x hx => ?_, hb2.setCell (Nat.le_refl _) _⟩
            have hvv := HV.out
            unfold cntK at hvv ⊢
            rw [HQ.out] at hvv ⊢
            by_cases e : x = k
            · subst e
              rw [if_pos rfl, if_pos (by omega)]
              rw [if_neg (by omega)] at hvv
              omega
            · rw [if_neg e]
              congr 1
              by_cases h2 : q ≤ x ∧ x < k
              · rw [if_pos h2, if_pos (by omega)]
              · rw [if_neg h2, if_neg (by omega)]
          case measure => simp [intOf]; omega
        · have hkt' : ¬ (k : Int) < (q : Int) + 2 + (m : Int) := by omega
          obtain rfl : k = q + 2 + m := by omega
          go_wp2_with fail
          go_roundw
          case rel =>
            refine ⟨j + 1, by rw [HK.out]; omega, by go_num, HIR2.out.congr fun x hx => ?_, hb2, Lib.hid (fun t ht => ?_)⟩
            · show cntK L h j (q + 2 + m) x = cnt L h j x + (if covers L h j x then 1 else 0)
              have hc : covers L h j x ↔ (q ≤ x ∧ x < q + 2 + m) := by unfold covers; rw [HQ.out, HM.out]
              unfold cntK
              rw [HQ.out]
              by_cases h2 : q ≤ x ∧ x < q + 2 + m
              · rw [if_pos h2, if_pos (hc.2 h2)]
              · rw [if_neg h2, if_neg (fun h3 => h2 (hc.1 h3))]
            · by_cases e : t = j
              · subst e
                rw [HQ.out, HM.out, HK.out, HN.out]
                omega
              · exact HT.out t (by omega)
          case measure => simp [intOf]; omega
    · obtain rfl : j = K := by omega
      have HCE := Lib.hid (show ∀ x, x < L.length → cnt L h j x = cnt L h (kOf L h) x from fun x _ => by rw [HK.out])
      have HIR' := Lib.hid (HIR.out.congr HCE.out)
      clear HIR HCE
      go_wp2_with fail
      go_loop [10] (fun kv => ∃ k : Nat, h + 2 + 2 * j ≤ k ∧ k ≤ n ∧ kv = .int .i64 k ∧ Hid (∀ x, h + 2 + 2 * j ≤ x → x < k → cnt L h (kOf L h) x ≤ 1 ∧ (cnt L h (kOf L h) x = 0 → bt L x = 0))) (fun kv => n - (intOf kv).toNat)
      case atStart => exact ⟨h + 2 + 2 * j, Nat.le_refl _, by omega, by go_num, Lib.hid (fun x h1 h2 => by omega)⟩
      case round =>
        obtain ⟨k, hk1, hk2, rfl, HC⟩ := hrel
        have m1 := HPj.out.m0
        rw [HN.out] at m1
        by_cases hkn : k < n
        · have hkn' : (k : Int) < (n : Int) := by omega
          have hkl : k < L.length := by rw [HN.out]; exact hkn
          obtain ⟨c0, f0⟩ := HIR'.out k hkl
          obtain ⟨v, hv⟩ : ∃ v, cnt L h (kOf L h) k = v := ⟨_, rfl⟩
          have HV := Lib.hid hv
          rw [hv] at c0
          obtain ⟨b0, o0, hA', _, hcell⟩ := HPj.out.rd.at (by omega)
          injection hA' with hA'
          injection hA' with e1 e2
          have c1 := hcell k hkl
          rw [← e1, ← e2, Nat.zero_add] at c1
          obtain ⟨y, hy⟩ : ∃ y, bt L k = y := ⟨_, rfl⟩
          have HY := Lib.hid hy
          rw [hy] at c1
          have i0 : (0 : Int) ≤ (k : Int) := by omega
          clear hv hy hcell e1 e2
          by_cases hv2 : (1 : Int) < (v : Int)
          · have HF := Lib.hid (show ¬ ofP L h from fun o => by have := of_once HB.out (by omega) o k; rw [HV.out] at this; omega)
            go_wp2_with fail
            exact HNO.out _ HF.out hb
          by_cases hv0 : v = 0
          · subst hv0
            by_cases hy0 : y = 0
            · subst hy0
              have z1 : ((0 : Int) == 0) = true := rfl
              have z2 : ((0 : Int) != 0) = false := rfl
              go_wp2_with fail
              go_round
              case rel =>
                refine ⟨k + 1, by omega, by omega, by go_num, Lib.hid (fun x h1 h2 => ?_)⟩
                by_cases e : x = k
                · subst e
                  rw [HV.out, HY.out]
                  exact ⟨by omega, fun _ => rfl⟩
                · exact HC.out x h1 (by omega)
              case measure => simp [intOf]; omega
            · have HF := Lib.hid (show ¬ ofP L h from fun o => hy0 (by rw [← HY.out]; exact of_zero HB.out (by omega) o (by rw [HK.out]; exact hk1) hkl HV.out))
              have z2 : (y != 0) = true := by simp [hy0]
              clear hy0
              go_wp2_with fail
              exact HNO.out _ HF.out hb
          · obtain rfl : v = 1 := by omega
            clear hv0
            go_wp2_with fail
            go_round
            case rel =>
              refine ⟨k + 1, by omega, by omega, by go_num, Lib.hid (fun x h1 h2 => ?_)⟩
              by_cases e : x = k
              · subst e
                rw [HV.out]
                exact ⟨by omega, fun h => by omega⟩
              · exact HC.out x h1 (by omega)
            case measure => simp [intOf]; omega
        · obtain rfl : k = n := by omega
          have HF := Lib.hid (show ofP L h from ofP_of HB.out HMY.out (by rw [HK.out, HN.out]; exact hfit) (fun t ht => HT.out t (by rw [HK.out] at ht; exact ht)) (fun x h1 h2 => HC.out x (by rw [HK.out] at h1; exact h1) (by rw [HN.out] at h2; exact h2)))
          go_wp2_with fail
          rw [HR.out]
          exact ⟨true, rfl, by simp [HF.out], hb⟩

/-- The page of bytes, or none. -/
def OfBack (w : World) (L : List Int) (h : Int) (e : Ending) (w' : World) : Prop :=
  Below w.heap.size w w' ∧ ((¬ mayP (L.length : Int) h ∧ e = .returned (.tuple #[.pointer none, .int .i64 1])) ∨ (mayP (L.length : Int) h ∧ ¬ ofP L h.toNat ∧ e = .returned (.tuple #[.pointer none, .int .i64 14])) ∨
    (mayP (L.length : Int) h ∧ ofP L h.toNat ∧ ∃ g gb c X, e = .returned (.tuple #[.pointer (some ⟨g, 0, none⟩), .int .i64 0]) ∧ w.heap.size ≤ g ∧ w.heap.size ≤ gb ∧ Pg w' g gb c h.toNat L X))

set_option maxHeartbeats 16000000 in
theorem pOf_any (w : World) (A : Option Addr) (n d : Nat) (L : List Int) (hn : L.length = n) (hnm : n ≤ 1000000) (hA : Rd w A L) (hB : IsB L) (h : Int) (hh : -9223372036854775808 ≤ h ∧ h ≤ 9223372036854775807) (R : Ending → World → Prop) (hR : R = OfBack w L h) :
    Calls Try.prog 23 #[.slice A n d, .int .i64 h] w R := by
  have HR := Lib.hid hR; clear hR
  have HN := Lib.hid hn
  have HA := Lib.hid hA
  clear hn hA
  have hnb : -9223372036854775808 ≤ (n : Int) ∧ (n : Int) ≤ 9223372036854775807 := by omega
  by_cases hm : mayP (n : Int) h
  rotate_left
  · have HM := Lib.hid hm
    clear hm
    go_enter Try.func23, Try.ntmps23
    go_wp2_with fail
    refine (pmay_any _ (n : Int) h hnb hh).mono ?_
    rintro e w1 ⟨rfl, rfl⟩
    simp only [decide_eq_false HM.out]
    go_wp2_with fail
    rw [HR.out]
    exact ⟨Below.refl _ _, .inl ⟨by rw [HN.out]; exact HM.out, rfl⟩⟩
  have HM := Lib.hid hm
  obtain ⟨n0, n1, h0, h1⟩ := hm
  obtain ⟨H, rfl⟩ := Int.eq_ofNat_of_zero_le h0
  have hnil : A = none → n = 0 ∧ d = 0 := by
    intro e
    rcases HA.out with h | ⟨b, off, h, _⟩
    · rw [h] at HN; have := HN.out; simp at this; omega
    · rw [e] at h; cases h
  have HNIL := Lib.hid hnil
  clear hnil
  go_enter Try.func23, Try.ntmps23
  go_wp2_with fail
  refine (pmay_any _ (n : Int) (H : Int) hnb hh).mono ?_
  rintro e w1 ⟨rfl, rfl⟩
  simp only [decide_eq_true HM.out]
  go_wp2_with fail
  refine (pclone_any _ A n d L HN.out hnm HNIL.out HA.out).mono ?_
  rintro e w1 ⟨A1, n1', c1, rfl, hown1, hb1⟩
  have HO := Lib.hid hown1
  clear hown1
  have hnn : n = n1' := HN.out.symm.trans HO.out.len
  subst hnn
  obtain ⟨gb2, X2, hA1, hgb2, hgb2', hpg2⟩ := Pg.made HO.out hB (by omega)
  subst hA1
  have hz1 := hb1.size
  have hp2 := hpg2 H
  clear hpg2
  obtain ⟨W2, hW2⟩ : ∃ W, W = w.alloc (.cells #[] 5) := ⟨_, rfl⟩
  clear hW2 W2
  go_upto_region 4 with fail
  obtain ⟨W2, hW2⟩ : ∃ W, W = w1.alloc (.cells #[.slice (some ⟨gb2, 0, none⟩) n c1, .int .i64 (H : Int)] 91) := ⟨_, rfl⟩
  have hb2 : Below w.heap.size w W2 := by rw [hW2]; exact hb1.alloc hz1 _
  rw [← hW2] at hp2 ⊢
  clear hW2
  have HP2 := Lib.hid hp2
  obtain ⟨g2, hg2⟩ : ∃ g, g = w1.heap.size := ⟨_, rfl⟩
  rw [← hg2] at HP2 ⊢
  have hg2' : w.heap.size ≤ g2 := by omega
  clear hp2 hg2 HO hgb2'
  go_wp2_with fail
  refine (psound_any _ g2 gb2 c1 H L X2 HP2.out (by rw [HN.out]; exact HM.out) _ rfl).mono ?_
  rintro e w3 ⟨b, rfl, hb, hb3⟩
  have HBI := Lib.hid hb
  have HP3 := Lib.hid (HP2.out.keep hb3)
  have hB3 : Below w.heap.size w w3 := hb2.trans (hb3.mono hb2.size)
  clear hb hb3
  cases b with
  | false =>
    go_wp2_with fail
    rw [HR.out]
    refine ⟨hB3, .inr (.inl ⟨by rw [HN.out]; exact HM.out, ⟨fun o => ?_, rfl⟩⟩)⟩
    have := HBI.out.2 o
    cases this
  | true =>
    go_wp2_with fail
    rw [HR.out]
    refine ⟨hB3, .inr (.inr ⟨by rw [HN.out]; exact HM.out, by first | exact HBI.out.1 rfl | exact HBI.out.1 trivial, g2, gb2, c1, X2, rfl, hg2', hgb2, HP3.out⟩)⟩
end Go.Proofs.Ytoeaffmlolapnaa
