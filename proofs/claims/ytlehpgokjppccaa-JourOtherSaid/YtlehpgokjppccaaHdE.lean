/- Walk: tomeref08.Encode. -/
import Derived.Test.YtlehpgokjppccaaHdD
namespace Go.Proofs.Ytlehpgokjppccaa
open Go.RowKit
set_option maxRecDepth 100000

def ints (l : List Int) : Array Value := (l.map (Value.int .i64)).toArray
def ReRel (w : World) (base g : Nat) (l : List Int) (b k : Value) (wr : World) : Prop :=
  ∃ (j : Nat) (A : Option Addr) (c : Nat), j ≤ 6 ∧ k = .int .i64 j ∧ b = .slice A (16 + 4 * j) c ∧ OwnB wr base A (16 + 4 * j) c (signL ++ fxs (l.take j)) ∧ wr.heap[g]? = some (.cells (ints l) 3 (0, 0)) ∧ base ≤ wr.heap.size ∧ Below w.heap.size w wr
theorem ints_cell {w : World} {g : Nat} {l : List Int} (h : w.heap[g]? = some (.cells (ints l) 3 (0, 0))) {j : Nat} (hj : j < l.length) : w.cell? ⟨g, j, none⟩ = some (.int .i64 (l.getD j 0)) := by
  have := cell_of_row w g (0 + j) _ _ _ h
  rw [Nat.zero_add] at this
  rw [this, ints, List.getElem?_toArray, List.getElem?_map, List.getElem?_eq_getElem hj, List.getD_eq_getElem?_getD, List.getElem?_eq_getElem hj]
  rfl
theorem not_own {w : World} {base g n c : Nat} {A : Option Addr} {l k : List Int} (ho : OwnB w base A n c l) (h : w.heap[g]? = some (.cells (ints k) 3 (0, 0))) : Value.ownBlock (.slice A n c) ≠ some g := by
  rcases ho.form with ⟨rfl, _⟩ | ⟨g', cur, rfl, _, hg, _⟩
  · simp [Value.ownBlock]
  · intro e
    simp only [Value.ownBlock, Option.some.injEq] at e
    subst e
    rw [h] at hg
    simp at hg
theorem grown_at {w w' : World} {g : Nat} {o : Obj} {r : Option Nat} (h : w.grownBy w' r) (hg : w.heap[g]? = some o) (hr : r ≠ some g) : w'.heap[g]? = some o := by
  rw [h.block g (Array.getElem?_eq_some_iff.1 hg).1 (fun e => hr e.symm)]
  exact hg
def ReRel2 (w : World) (base : Nat) (l : List Int) (b : Value) (wr : World) : Prop :=
  ∃ (j : Nat) (A : Option Addr) (c : Nat), j ≤ 20 ∧ b = .slice A (40 + j) c ∧ OwnB wr base A (40 + j) c (l ++ List.replicate j 0) ∧ base ≤ wr.heap.size ∧ Below w.heap.size w wr

def l11 : List Int := [116, 111, 109, 101, 32, 102, 105, 108, 101, 32, 49]
def l5 : List Int := [0, 0, 0, 0, 0]
def w11 (w : World) : World := (w.alloc (.cells #[.int .u8 116, .int .u8 111, .int .u8 109, .int .u8 101, .int .u8 32, .int .u8 102, .int .u8 105, .int .u8 108, .int .u8 101, .int .u8 32, .int .u8 49] 5 (11, 12))).alloc (.cells #[.int .u8 0, .int .u8 0, .int .u8 0, .int .u8 0, .int .u8 0] 5)
theorem rd11 (w : World) : Rd (w11 w) (some ⟨w.heap.size, 0, none⟩) l11 := by
  refine .inr ⟨_, 0, rfl, fun i hi => ?_⟩
  simp [l11] at hi
  rcases (by omega : i = 0 ∨ i = 1 ∨ i = 2 ∨ i = 3 ∨ i = 4 ∨ i = 5 ∨ i = 6 ∨ i = 7 ∨ i = 8 ∨ i = 9 ∨ i = 10) with rfl | rfl | rfl | rfl | rfl | rfl | rfl | rfl | rfl | rfl | rfl <;> simp [w11, go_sem, bt, l11, Joins.cell_alloc_mark_at]
theorem rd5 (w : World) : Rd (w11 w) (some ⟨w.heap.size + 1, 0, none⟩) l5 := by
  refine .inr ⟨_, 0, rfl, fun i hi => ?_⟩
  simp [l5] at hi
  rcases (by omega : i = 0 ∨ i = 1 ∨ i = 2 ∨ i = 3 ∨ i = 4) with rfl | rfl | rfl | rfl | rfl <;> simp [w11, go_sem, bt, l5, Joins.cell_alloc_mark_at]

set_option maxHeartbeats 8000000 in
theorem rencode_good (w : World) (h : Hd) (hok : h.ok) (hg : h.good) (R : Ending → World → Prop) (hR : R = EncBack w h) : Calls Try.prog 14 #[h.val] w R := by
  have kc := fun (w : World) (C : Array Value) (n c g : Nat) (hg : g = w.heap.size) => Joins.run_convert_bytes_const_at (P := Try.prog) w 24 5 C n c g hg Try.underlying24 Try.underlying5
  have HOK := Lib.hid hok; clear hok
  have HR := Lib.hid hR; clear hR
  have HG := Lib.hid hg
  have hc := check_yes hg
  clear hg
  have HC := Lib.hid hc; clear hc
  unfold Hd.val
  go_enter Try.func14, Try.ntmps14
  go_wp2_with fail
  refine (rcheck_any _ h HOK.out).mono ?_
  rintro e w1 ⟨rfl, hb1⟩
  have hB1 : Below w.heap.size w w1 := ((Below.refl _ _).alloc (Nat.le_refl _) _).trans (hb1.mono (by simp))
  have hS1 : w.heap.size + 1 ≤ w1.heap.size := by simpa using hb1.size
  have hcell : ∀ i, i < 6 → w1.cell? ⟨w.heap.size, i, none⟩ = some (.int .i64 (h.list.getD i 0)) := by
    intro i hi
    rw [hb1.cell (by simp)]
    rcases (by omega : i = 0 ∨ i = 1 ∨ i = 2 ∨ i = 3 ∨ i = 4 ∨ i = 5) with rfl | rfl | rfl | rfl | rfl | rfl <;> simp [go_sem, Hd.list]
  have HCL := Lib.hid hcell; clear hcell
  clear hb1
  simp only [HC.out]
  have r11 := rd11 w1
  have r5 := rd5 w1
  have h11 : Below w1.heap.size w1 (w11 w1) := by
    unfold w11
    exact ((Below.refl _ _).alloc (Nat.le_refl _) _).alloc (by simp) _
  have hs11 : (w11 w1).heap.size = w1.heap.size + 2 := by simp [w11]
  have hlds : ∀ w2, Below (w11 w1).heap.size (w11 w1) w2 → w2.cell? ⟨w.heap.size, 0, none⟩ = some (.int .i64 h.s) ∧ w2.cell? ⟨w.heap.size, 1, none⟩ = some (.int .i64 h.p) ∧ w2.cell? ⟨w.heap.size, 2, none⟩ = some (.int .i64 h.f) ∧ w2.cell? ⟨w.heap.size, 3, none⟩ = some (.int .i64 h.m) ∧ w2.cell? ⟨w.heap.size, 4, none⟩ = some (.int .i64 h.c) ∧ w2.cell? ⟨w.heap.size, 5, none⟩ = some (.int .i64 h.v) := by
    intro w2 hb
    have hx : ∀ i, i < 6 → w2.cell? ⟨w.heap.size, i, none⟩ = some (.int .i64 (h.list.getD i 0)) := fun i hi => by
      rw [hb.cell (by show w.heap.size < _; omega), h11.cell (by show w.heap.size < _; omega)]; exact HCL.out i hi
    exact ⟨hx 0 (by omega), hx 1 (by omega), hx 2 (by omega), hx 3 (by omega), hx 4 (by omega), hx 5 (by omega)⟩
  have HLD := Lib.hid hlds; clear hlds
  go_wp2_with (at_builtin; refine wp_append_full rfl (.tmp 11) (.tmp 12) rfl (some ⟨w1.heap.size, 0, none⟩) 11 11 l11 rfl rfl (by decide) (by decide) r11 (some ⟨w1.heap.size + 1, 0, none⟩) 5 5 l5 rfl rfl r5 (by decide) (by decide) ?_; intro A2 c2 w2 hown2 hb2; obtain ⟨k0, k1, k2, k3, k4, k5⟩ := HLD.out w2 hb2)
  have HB2 := Lib.hid (show Below (w11 w1).heap.size (w11 w1) w2 from hb2); clear hb2
  have HO2 := Lib.hid (show OwnB w2 (w11 w1).heap.size A2 16 c2 signL from hown2); clear hown2
  have hS2 := HB2.out.size
  have hB2 : Below w.heap.size w w2 := hB1.trans ((h11.mono (by omega)).trans (HB2.out.mono (by omega)))
  clear k0 k1 k2 k3 k4 k5 r11 r5
  have hS1' : w.heap.size ≤ w1.heap.size := by omega
  go_loopw [4, 6] (fun b k wr => ReRel w (w11 w1).heap.size w2.heap.size h.list b k wr) (fun _ k _ => 6 - (intOf k).toNat)
  case atStart =>
    exact ⟨0, A2, c2, by omega, rfl, rfl, by simpa [fxs] using HO2.out.alloc _, heap_alloc_new w2 _, by simp; omega, hB2.alloc (by omega) _⟩
  case round =>
    obtain ⟨j, A, c, hj, rfl, rfl, hown, hgx, hbs, hb⟩ := hrel
    by_cases hlt : j < 6
    · have hx := ints_cell hgx (j := j) (by simpa [Hd.list] using hlt)
      obtain ⟨x0, x1⟩ := HG.out.fields j
      have htk := fxs_take (l := h.list) (j := j) (by simpa [Hd.list] using hlt)
      obtain ⟨x, hxe⟩ : ∃ x, x = h.list.getD j 0 := ⟨_, rfl⟩
      rw [← hxe] at hx x0 x1 htk
      have hw : IntKind.u64.wrap x = x := IntWalk.u64_in _ (by omega)
      have hw2 : IntKind.i64.wrap ((j : Int) + 1) = (j : Int) + 1 := IntWalk.i64_in _ (by omega)
      have HT := Lib.hid htk; clear htk hxe
      have HGX := Lib.hid hgx; clear hgx
      have HE := Lib.hid hown; clear hown
      go_wp2_with fail
      refine (rfixed_any _ x 4 x0 (by omega)).mono ?_
      rintro e w3 ⟨A3, n3, c3, rfl, hown, hb3⟩
      rw [show (4 : Int) = (4 : Nat) from rfl, fixed_nat x 4 (by decide) (by decide)] at hown
      have hn3 : 4 = n3 := by rw [← hown.len, fxL_length]
      subst hn3
      have HO := Lib.hid hown; clear hown
      have HE2 := Lib.hid (HE.out.keep hb3)
      have HGX2 := Lib.hid ((hb3.block w2.heap.size (Array.getElem?_eq_some_iff.1 HGX.out).1).trans HGX.out)
      have hsz := hb3.size
      go_wp2_with (at_builtin; refine wp_append rfl (.tmp 33) (.tmp 39) rfl (w11 w1).heap.size A (16 + 4 * j) c _ rfl HE2.out A3 4 c3 (fxL x 4) rfl HO.out.len HO.out.rd (by omega) (by omega) ?_; intro A4 c4 w4 hown4 hgr4 hb4)
      go_roundw
      case rel =>
        rw [List.append_assoc, ← HT.out] at hown4
        exact ⟨j + 1, A4, c4, by omega, by go_num, by rw [show 16 + 4 * (j + 1) = 16 + 4 * j + 4 by omega], hown4, grown_at hgr4 HGX2.out (not_own HE2.out HGX2.out), Nat.le_trans (by omega) hb4.size, hb.trans ((hb3.mono hb.size).trans (hb4.mono (by omega)))⟩
      case measure => simp [intOf]; omega
    · obtain rfl : j = 6 := by omega
      have e40 : 16 + 4 * 6 = 40 := rfl
      rw [e40] at hown
      have HO := Lib.hid hown; clear hown hgx
      simp only [e40]
      have hw11 : w.heap.size ≤ (w11 w1).heap.size := by omega
      obtain ⟨base, hbase⟩ : ∃ b, b = (w11 w1).heap.size := ⟨_, rfl⟩
      rw [← hbase] at HO hbs hw11
      clear hbase
      go_wp2_with fail
      go_loopw [4] (fun b wr => ReRel2 w base (signL ++ fxs (List.take 6 h.list)) b wr) (fun b _ => 60 - (match b with | .slice _ n _ => n | _ => 0))
      case atStart => exact ⟨0, A, c, by omega, rfl, by simpa using HO.out, hbs, hb⟩
      case round =>
        obtain ⟨j, A, c, hj, rfl, hown, hbs, hb⟩ := hrel
        by_cases hlt : j < 20
        · have HE := Lib.hid hown; clear hown
          go_wp2_with (at_builtin; refine wp_append rfl (.tmp 44) (.tmp 45) rfl base A (40 + j) c _ rfl (HE.out.alloc _) (some ⟨wr.heap.size, 0, none⟩) 1 1 [0] rfl rfl (Rd.of1 (by simp [go_sem])) (by omega) (by simp; omega) ?_; intro A4 c4 w4 hown4 _ hb4)
          have hb4' : Below base wr w4 := ((Below.refl _ _).alloc (by omega) _).trans hb4
          go_roundw
          case rel =>
            rw [List.append_assoc, show List.replicate j (0 : Int) ++ [0] = List.replicate (j + 1) 0 from by rw [List.replicate_succ']] at hown4
            exact ⟨j + 1, A4, c4, by omega, rfl, hown4, Nat.le_trans hbs hb4'.size, hb.trans (hb4'.mono hw11)⟩
          case measure => simp; omega
        · obtain rfl : j = 20 := by omega
          have e60 : 40 + 20 = 60 := rfl
          rw [e60, show signL ++ fxs (List.take 6 h.list) ++ List.replicate 20 0 = bodyL h from rfl] at hown
          have HE := Lib.hid hown; clear hown
          simp only [e60]
          have hcap := HE.out.cap
          have hsr := hb.size
          go_wp2_with fail
          refine (rsum2_any _ A 60 c (bodyL h) (bodyL_length h) (by decide) HE.out.rd (bodyL_isB h)).mono ?_
          rintro e w5 ⟨rfl, rfl⟩
          obtain ⟨y0, y1⟩ := sumI_bd (bodyL h)
          have hhead : headL h = bodyL h ++ fxL (sumI (bodyL h)) 4 := rfl
          obtain ⟨y, hy⟩ : ∃ y, y = sumI (bodyL h) := ⟨_, rfl⟩
          rw [← hy] at y0 y1 hhead ⊢
          have HH := Lib.hid hhead; clear hhead hy
          have hwy : IntKind.u64.wrap y = y := IntWalk.u64_in _ (by omega)
          go_wp2_with fail
          refine (rfixed_any _ y 4 y0 (by omega)).mono ?_
          rintro e w3 ⟨A6, n6, c6, rfl, hown, hb6⟩
          rw [show (4 : Int) = (4 : Nat) from rfl, fixed_nat y 4 (by decide) (by decide)] at hown
          have hn2 : 4 = n6 := by rw [← hown.len, fxL_length]
          subst hn2
          have HO3 := Lib.hid hown; clear hown
          have HO4 := Lib.hid (HE.out.keep hb6)
          have hsz6 := hb6.size
          go_wp2_with (at_builtin; refine wp_append rfl (.tmp 47) (.tmp 51) rfl base A 60 c _ rfl HO4.out A6 4 c6 (fxL y 4) rfl HO3.out.len HO3.out.rd (by omega) (by omega) ?_; intro A7 c7 w7 hown7 _ hb7)
          rw [← HH.out] at hown7
          have HO7 := Lib.hid hown7; clear hown7
          rw [HR.out]
          exact ⟨A7, 60 + 4, c7, by rw [HC.out]; rfl, by rw [encL_yes HG.out]; exact HO7.out.mono hw11, hb.trans ((hb6.mono hsr).trans (hb7.mono hw11))⟩

theorem rencode_any (w : World) (h : Hd) (hok : h.ok) : Calls Try.prog 14 #[h.val] w (EncBack w h) := by
  by_cases hg : h.good
  · exact rencode_good w h hok hg _ rfl
  · have HOK := Lib.hid hok; clear hok
    have hout : ∀ (R : Ending → World → Prop), R = EncBack w h → Calls Try.prog 14 #[h.val] w R := by
      intro R hR
      have HR := Lib.hid hR; clear hR
      have HG := Lib.hid hg
      have hc := check_no hg
      clear hg
      have HC := Lib.hid hc; clear hc
      unfold Hd.val
      go_enter Try.func14, Try.ntmps14
      go_wp2_with fail
      refine (rcheck_any _ h HOK.out).mono ?_
      rintro e w1 ⟨rfl, hb1⟩
      have hB1 : Below w.heap.size w w1 := ((Below.refl _ _).alloc (Nat.le_refl _) _).trans (hb1.mono (by simp))
      simp only [HC.out]
      go_wp2
      rw [HR.out]
      exact ⟨none, 0, 0, by rw [HC.out]; rfl, by rw [encL_no HG.out]; exact OwnB.nil _ _, hB1⟩
    exact hout _ rfl
end Go.Proofs.Ytlehpgokjppccaa
