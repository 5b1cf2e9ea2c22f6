/- Walks: slices.stableCmpFunc of at most 20 rows, slices.SortStableFunc, order.Sort. -/
import Derived.Test.YtbbdglikdogmhaaTpE
namespace Go.Proofs.Ytbbdglikdogmhaa
open Go.RowKit
set_option maxRecDepth 100000
set_option linter.unusedVariables false
set_option linter.unusedSimpArgs false
set_option linter.unnecessarySimpa false

theorem isort_none (w : World) (A : Option Addr) (n oc : Nat) (f : Value) (a b : Nat) (hab : b ≤ a) (ha : a ≤ 1000) :
    Calls Try.prog 71 #[.slice A n oc, .int .i64 (a : Int), .int .i64 (b : Int), f] w fun e w' => e = .returned (.tuple #[]) ∧ w = w' := by
  have h1 : ¬ (a : Int) + 1 < (b : Int) := by omega
  go_enter Try.func71, Try.ntmps71
  go_wp2_with fail
  go_loopw [8] (fun iv wr => iv = .int .i64 ((a : Int) + 1) ∧ w = wr) (fun _ _ => 0)
  case atStart => exact ⟨rfl, rfl⟩
  case round =>
    obtain ⟨rfl, rfl⟩ := hrel
    go_wp2_with fail
    first | go_end0 | skip
    exact ⟨rfl, rfl⟩
def StRel (w : World) (B0 base g oc n : Nat) (L Z : List Rw) (av bv : Value) (wr : World) : Prop :=
  (av = .int .i64 0 ∧ bv = .int .i64 20 ∧ Dt wr base (some ⟨g, 0, none⟩) oc L ∧ w = wr) ∨ (n = 20 ∧ av = .int .i64 20 ∧ bv = .int .i64 40 ∧ Dt wr base (some ⟨g, 0, none⟩) oc Z ∧ Below B0 w wr)

set_option maxHeartbeats 16000000 in
theorem stable_any (w : World) (B0 base g oc n gk : Nat) (C : Option Addr) (t e0 : Nat) (ks : List Ky) (L : List Rw) (hL : L.length = n) (hn : n ≤ 20) (hB : B0 ≤ base) (hkw : ∀ W : World, Below B0 w W → W.cell? ⟨gk, 0, none⟩ = some (.slice C t e0) ∧ RdKy W C ks) (ht : ks.length = t) (htm : t ≤ maxLen) (hK : ∀ k ∈ ks, KyOk k) (hd : Dt w base (some ⟨g, 0, none⟩) oc L)
    (R : Ending → World → Prop) (hR : R = fun e w' => e = .returned (.tuple #[]) ∧ Dt w' base (some ⟨g, 0, none⟩) oc (srt (ltK ks) (n - 1) 1 L) ∧ Below B0 w w') :
    Calls Try.prog 66 #[.slice (some ⟨g, 0, none⟩) n oc, .int .i64 (n : Int), .func (.func 48) #[] #[.pointer (some ⟨gk, 0, none⟩)]] w R := by
  have HR := Lib.hid hR; clear hR
  have HI := Lib.hid (isort_any w B0 base g oc n gk C t e0 ks L hL (by omega) hB hkw ht htm hK hd _ rfl)
  have HD := Lib.hid hd
  obtain ⟨Z, hZ⟩ : ∃ Z, srt (ltK ks) (n - 1) 1 L = Z := ⟨_, rfl⟩
  rw [hZ] at HR HI
  clear hL hkw ht hK hd hZ
  by_cases h20 : n = 20
  · subst h20
    go_enter Try.func66, Try.ntmps66
    go_wp2_with fail
    go_loopw [7, 8] (StRel w B0 base g oc 20 L Z) (fun _ b _ => 40 - (intOf b).toNat)
    case atStart => exact .inl ⟨rfl, rfl, HD.out, rfl⟩
    case round =>
      rcases hrel with ⟨rfl, rfl, _, rfl⟩ | ⟨_, rfl, rfl, hz, hb⟩
      · go_wp2_with fail
        refine HI.out.mono ?_
        rintro e w1 ⟨rfl, hz, hb⟩
        have HZ := Lib.hid hz
        clear hz HI HD
        go_wp2_with fail
        go_roundw
        case rel => (repeat apply Exists.intro); exact ⟨.inr ⟨rfl, rfl, rfl, HZ.out, hb⟩, rfl⟩
        case measure => simp [intOf]
      · have HZ := Lib.hid hz
        clear hz HI HD
        go_wp2_with fail
        refine (isort_none _ _ 20 oc _ 20 20 (Nat.le_refl _) (by omega)).mono ?_
        rintro e w1 ⟨rfl, rfl⟩
        go_wp2_with fail
        go_loopw [6] (fun v w2 => v = .int .i64 20 ∧ wr = w2) (fun _ _ => 0)
        case atStart => exact ⟨rfl, rfl⟩
        case round =>
          obtain ⟨rfl, rfl⟩ := hrel
          go_wp2_with fail
          first | go_end0 | skip
          rw [HR.out]
          exact ⟨rfl, HZ.out, hb⟩
  · have hlt : (n : Int) < 20 := by omega
    have hnl : ¬ (20 : Int) ≤ (n : Int) := by omega
    clear h20
    go_enter Try.func66, Try.ntmps66
    go_wp2_with fail
    go_loopw [7, 8] (fun a b wr => a = .int .i64 0 ∧ b = .int .i64 20 ∧ w = wr) (fun _ _ _ => 0)
    case atStart => exact ⟨rfl, rfl, rfl⟩
    case round =>
      obtain ⟨rfl, rfl, rfl⟩ := hrel
      go_wp2_with fail
      refine HI.out.mono ?_
      rintro e w1 ⟨rfl, hz, hb⟩
      have HZ := Lib.hid hz
      clear hz HI HD
      go_wp2_with fail
      go_loopw [6] (fun v w2 => v = .int .i64 20 ∧ w1 = w2) (fun _ _ => 0)
      case atStart => exact ⟨rfl, rfl⟩
      case round =>
        obtain ⟨rfl, rfl⟩ := hrel
        go_wp2_with fail
        first | go_end0 | skip
        rw [HR.out]
        exact ⟨rfl, HZ.out, hb⟩
theorem sortSF_any (w : World) (B0 base g oc n gk : Nat) (C : Option Addr) (t e0 : Nat) (ks : List Ky) (L : List Rw) (hL : L.length = n) (hn : n ≤ 20) (hB : B0 ≤ base) (hkw : ∀ W : World, Below B0 w W → W.cell? ⟨gk, 0, none⟩ = some (.slice C t e0) ∧ RdKy W C ks) (ht : ks.length = t) (htm : t ≤ maxLen) (hK : ∀ k ∈ ks, KyOk k) (hd : Dt w base (some ⟨g, 0, none⟩) oc L) :
    Calls Try.prog 47 #[.slice (some ⟨g, 0, none⟩) n oc, .func (.func 48) #[] #[.pointer (some ⟨gk, 0, none⟩)]] w fun e w' => e = .returned (.tuple #[]) ∧ Dt w' base (some ⟨g, 0, none⟩) oc (srt (ltK ks) (n - 1) 1 L) ∧ Below B0 w w' := by
  have HI := Lib.hid (stable_any w B0 base g oc n gk C t e0 ks L hL hn hB hkw ht htm hK hd _ rfl)
  obtain ⟨Z, hZ⟩ : ∃ Z, srt (ltK ks) (n - 1) 1 L = Z := ⟨_, rfl⟩
  rw [hZ] at HI ⊢
  clear hL hkw ht hK hd hZ
  go_enter Try.func47, Try.ntmps47
  go_wp2_with fail
  refine HI.out.mono ?_
  rintro e w1 ⟨rfl, hz, hb⟩
  have HZ := Lib.hid hz
  clear hz HI
  go_wp2_with fail
  first | go_end0 | skip
  exact ⟨rfl, HZ.out, hb⟩

set_option maxHeartbeats 8000000 in
theorem osort_any (w : World) (A : Option Addr) (n c : Nat) (L : List Rw) (C : Option Addr) (t e0 : Nat) (ks : List Ky) (hn : L.length = n) (hn1 : 1 ≤ n) (hn20 : n ≤ 20) (hA : RdVR w A L) (hsh : ∀ r ∈ L, r.n ≤ 100000) (ht : ks.length = t) (htm : t ≤ maxLen) (hC : RdKy w C ks) (hK : ∀ k ∈ ks, KyOk k) (R : Ending → World → Prop)
    (hR : R = fun e w' => ∃ M A c, e = .returned (.slice A n c) ∧ M.length = n ∧ RdVR w' A M ∧ valsOf M = srtV (ltK ks) (n - 1) 1 (valsOf L) ∧ Below w.heap.size w w') :
    Calls Try.prog 24 #[.slice A n c, .slice C t e0] w R := by
  have HR := Lib.hid hR; clear hR
  have HN := Lib.hid hn
  have HA := Lib.hid hA
  have HSH := Lib.hid hsh
  have HT := Lib.hid ht
  have HC := Lib.hid hC
  have HK := Lib.hid hK
  obtain ⟨W0, hW0⟩ : ∃ W, W = w.alloc (.cells #[.slice C t e0] 45) := ⟨_, rfl⟩
  have hb0 : Below w.heap.size w W0 := by rw [hW0]; exact (Below.refl _ _).alloc (Nat.le_refl _) _
  have hs0 : w.heap.size < W0.heap.size := by rw [hW0]; simp
  have HC0 := Lib.hid (show W0.cell? ⟨w.heap.size, 0, none⟩ = some (.slice C t e0) by rw [hW0, heap_cell (heap_alloc_new w _)]; rfl)
  have HW := Lib.hid hW0
  have hmf : ∀ (fn : Fn) (first cap : Array Value) (w : World), (Instr.makeFunc fn first cap).run Try.prog w = .ok (.func fn first cap) w := fun _ _ _ _ => rfl
  clear hW0 hn hA hsh ht hC hK
  go_enter Try.func24, Try.ntmps24
  go_upto_region 1 with fail
  rw [← HW.out]
  clear HW
  go_wp2_with fail
  refine (ocopies_any _ A n c L HN.out (by omega) (HA.out.keep hb0) HSH.out _ rfl).mono ?_
  rintro e w1 ⟨M, OA, oc, rfl, hM, hdt, hvals, hb1⟩
  have HM := Lib.hid hM
  have HV := Lib.hid hvals
  have hg : ∃ g, OA = some ⟨g, 0, none⟩ := by
    rcases hdt.1.2.2 with ⟨hv, hz⟩ | ⟨g, cap, cur, hv, _⟩
    · rw [hM] at hz; omega
    · injection hv with e1; exact ⟨g, e1⟩
  obtain ⟨g, rfl⟩ := hg
  have HD := Lib.hid hdt
  have hb01 : Below w.heap.size w w1 := hb0.trans (hb1.mono hb0.size)
  clear hM hvals hdt
  go_wp2_with fail
  refine (sortSF_any _ W0.heap.size W0.heap.size g oc n w.heap.size C t e0 ks M HM.out hn20 (Nat.le_refl _) (fun W hW => ⟨((hb1.trans hW).cell (p := ⟨w.heap.size, 0, none⟩) hs0).trans HC0.out, HC.out.keep (hb0.trans ((hb1.trans hW).mono hb0.size))⟩) HT.out htm HK.out HD.out).mono ?_
  rintro e w2 ⟨rfl, hz, hb2⟩
  have HZ := Lib.hid hz
  have hb02 : Below w.heap.size w w2 := hb01.trans (hb2.mono hb0.size)
  clear hz hb1 hb2 hmf
  go_wp2_with fail
  rw [HR.out]
  have hl : (srt (ltK ks) (n - 1) 1 M).length = n := by rw [srt_len, HM.out]
  refine ⟨srt (ltK ks) (n - 1) 1 M, some ⟨g, 0, none⟩, oc, rfl, hl, ⟨.inr ⟨g, 0, rfl, fun i hi => ?_⟩, fun r hr => (HZ.out.2 r hr).ok⟩, by rw [srt_of, HV.out], hb02⟩
  rw [Nat.zero_add]
  exact (HZ.out.at hi).1
end Go.Proofs.Ytbbdglikdogmhaa
