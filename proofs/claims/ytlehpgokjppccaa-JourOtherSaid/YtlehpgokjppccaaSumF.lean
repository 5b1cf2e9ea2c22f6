/- Walks: sum.Seal, sum.Sealed. -/
import Derived.Test.YtlehpgokjppccaaSumE
import Derived.ChangeKeysEq
namespace Go.Proofs.Ytlehpgokjppccaa
open Go.RowKit
set_option maxRecDepth 100000

set_option maxHeartbeats 2000000 in
theorem seal_any (w : World) (A : Option Addr) (n c : Nat) (l : List Int) (hn : l.length = n) (hnc : n ≤ c) (hm : c ≤ maxLen) (hm2 : n ≤ 140737488351232) (hA : Rd w A l) (il : IsB l) :
    Calls Try.prog 38 #[.slice A n c] w (BytesBack w (l ++ [sumI l % 256, sumI l / 256 % 256, sumI l / 65536 % 256, sumI l / 16777216])) := by
  have HF := Lib.hid (foot_any w A n c l hn hnc hm hA il)
  have hmk := fun W => run_mk 0 (n + 4) (by omega) (by omega) W
  simp only [Int.natCast_add, Int.cast_ofNat_Int] at hmk
  obtain ⟨s, hs⟩ : ∃ x, x = sumI l := ⟨_, rfl⟩
  rw [← hs] at HF ⊢
  clear hs
  have HN := Lib.hid hn; clear hn
  have HA := Lib.hid hA; clear hA
  go_enter Try.func38, Try.ntmps38
  go_wp2_with (go_at_call 59; refine HF.out.mono ?_; rintro e w1 ⟨rfl, hb1⟩)
  obtain ⟨wx, hwx⟩ : ∃ x, x = w1.alloc (.cells #[.int .u8 (s % 256), .int .u8 (s / 256 % 256), .int .u8 (s / 65536 % 256), .int .u8 (s / 16777216)] 100) := ⟨_, rfl⟩
  have hbx : Below w.heap.size w wx := by rw [hwx]; exact hb1.alloc hb1.size _
  have hAx := HA.out.keep hbx
  have hys : Rd wx (some ⟨w1.heap.size, 0, none⟩) [s % 256, s / 256 % 256, s / 65536 % 256, s / 16777216] := by
    refine .inr ⟨_, 0, rfl, fun i hi => ?_⟩
    simp at hi
    rw [hwx]
    rcases (by omega : i = 0 ∨ i = 1 ∨ i = 2 ∨ i = 3) with rfl | rfl | rfl | rfl <;> simp [go_sem, bt]
  have hbs := hbx.size
  rw [← hwx]
  have HX := Lib.hid hAx; clear hAx
  have HY := Lib.hid hys; clear hys
  clear hwx
  have hw4 : IntKind.i64.wrap ((n : Int) + 4) = (n : Int) + 4 := IntWalk.i64_in _ (by omega)
  go_region_held3 (fun w' => Below wx.heap.size wx w') (first | assumption | (exact (Below.refl _ _).drew) | (exact Below.alloc (by assumption) (Below.size (by assumption)) _) | (exact Below.trans (by assumption) (by assumption))) (first
    | (refine step_append rfl (.tmp 9) (.tmp 10) rfl wx.heap.size (some ⟨_, 0, none⟩) 0 (n + 4) [] rfl (OwnB.made _ _ _ (by go_size) (by unfold maxLen; omega)) A n c l rfl HN.out (HX.out.keep (by assumption)) (by omega) (Below.size (by assumption)) ?_; intro A1 c1 w2 hown1 _ hb2)
    | (refine step_append rfl (.tmp 11) (.tmp 12) rfl wx.heap.size A1 (0 + n) c1 _ rfl hown1 (some ⟨w1.heap.size, 0, none⟩) 4 4 [s % 256, s / 256 % 256, s / 65536 % 256, s / 16777216] rfl rfl (HY.out.keep (by assumption)) (by omega) (Below.size (by assumption)) ?_; intro A2 c2 w3 hown2 _ hb3))
  go_wp2
  go_ret
  exact ⟨A2, n + 4, c2, rfl, by simpa using hown2.mono hbs, hbx.trans (Below.mono (by assumption) hbs)⟩

theorem info_a4 : (Try.prog.info? 5).isSome = true := by kernel_rfl
theorem cells_u8 : Try.prog.cellsOf 5 = 1 := by kernel_rfl
/-- '==' on two arrays of four bytes. -/
theorem run_eq4 (a0 a1 a2 a3 b0 b1 b2 b3 : Int) (W : World) : (Op.equalIn 10000 100 (.agg #[.int .u8 a0, .int .u8 a1, .int .u8 a2, .int .u8 a3]) (.agg #[.int .u8 b0, .int .u8 b1, .int .u8 b2, .int .u8 b3])).run Try.prog W = .ok (beqL [a0, a1, a2, a3] [b0, b1, b2, b3]) W := by
  obtain ⟨i, hi⟩ := Option.isSome_iff_exists.1 info_a4
  rw [run_equalIn_array W 9999 _ _ Try.underlying100 hi, cells_u8]
  simp only [List.range, List.range.loop, Op.eqItems, Sem.run_bind, beqL]
  by_cases h0 : a0 = b0 <;> by_cases h1 : a1 = b1 <;> by_cases h2 : a2 = b2 <;> by_cases h3 : a3 = b3 <;> simp [go_sem, h0, h1, h2, h3]

theorem held4 {w W w1 : World} {p0 p1 p2 p3 : Addr} {v0 v1 v2 v3 : Value} (h : Below w.heap.size w W ∧ W.cell? p0 = some v0 ∧ W.cell? p1 = some v1 ∧ W.cell? p2 = some v2 ∧ W.cell? p3 = some v3) (hb : Below W.heap.size W w1) :
    Below w.heap.size w w1 ∧ w1.cell? p0 = some v0 ∧ w1.cell? p1 = some v1 ∧ w1.cell? p2 = some v2 ∧ w1.cell? p3 = some v3 :=
  ⟨h.1.trans (hb.mono h.1.size), (hb.cell (World.block_lt_of_cell? _ _ h.2.1)).trans h.2.1, (hb.cell (World.block_lt_of_cell? _ _ h.2.2.1)).trans h.2.2.1, (hb.cell (World.block_lt_of_cell? _ _ h.2.2.2.1)).trans h.2.2.2.1, (hb.cell (World.block_lt_of_cell? _ _ h.2.2.2.2)).trans h.2.2.2.2⟩

set_option maxHeartbeats 2000000 in
theorem sealed_any (w : World) (A : Option Addr) (n c : Nat) (l : List Int) (hn : l.length = n + 4) (hnc : n + 4 ≤ c) (hm : c ≤ maxLen) (hA : Rd w A l) (il : IsB l) :
    Calls Try.prog 37 #[.slice A ((n + 4 : Nat) : Nat) c] w fun e w' => e = .returned (.bool (beqL [sumI (l.take n) % 256, sumI (l.take n) / 256 % 256, sumI (l.take n) / 65536 % 256, sumI (l.take n) / 16777216] [bt l n, bt l (n + 1), bt l (n + 2), bt l (n + 3)])) ∧ Below w.heap.size w w' := by
  obtain ⟨b, off, hAA, hbl, hcell⟩ := Rd.at hA (by omega)
  subst hAA
  have hA' : Rd w (some ⟨b, off, none⟩) (l.take n) := by
    refine .inr ⟨b, off, rfl, fun i hi => ?_⟩
    have hi' : i < n := by simp at hi; omega
    rw [hcell i (by omega)]
    rw [bt_lt (by omega), bt_lt hi]
    simp
  have HF := Lib.hid (fun W (hb : Below w.heap.size w W) => foot_any W _ n c (l.take n) (by simp; omega) (by omega) hm (hA'.keep hb) (fun x hx => il x (List.mem_of_mem_take hx)))
  have c0 := hcell n (by omega)
  have c1 := hcell (n + 1) (by omega)
  have c2 := hcell (n + 2) (by omega)
  have c3 := hcell (n + 3) (by omega)
  obtain ⟨s, hs⟩ : ∃ x, x = sumI (l.take n) := ⟨_, rfl⟩
  rw [← hs] at HF ⊢
  clear hs hcell hA hA' hn
  unfold maxLen at hm
  have HI := Lib.hid il; clear il
  go_enter Try.func37, Try.ntmps37
  go_wp2_with fail
  have e1 : IntKind.i64.wrap ((n : Int) + 1) = (n : Int) + 1 := IntWalk.i64_in _ (by omega)
  have e2 : IntKind.i64.wrap ((n : Int) + 2) = (n : Int) + 2 := IntWalk.i64_in _ (by omega)
  have e3 : IntKind.i64.wrap ((n : Int) + 3) = (n : Int) + 3 := IntWalk.i64_in _ (by omega)
  have f0 : ((n : Int)).toNat = n := by omega
  have f1 : ((n : Int) + 1).toNat = n + 1 := by omega
  have f2 : ((n : Int) + 2).toNat = n + 2 := by omega
  have f3 : ((n : Int) + 3).toNat = n + 3 := by omega
  have i0 : (n : Int) < (n : Int) + 4 := by omega
  have i1 : (n : Int) + 1 < (n : Int) + 4 := by omega
  have i2 : (n : Int) + 2 < (n : Int) + 4 := by omega
  have i3 : (n : Int) + 3 < (n : Int) + 4 := by omega
  have k0 : (n : Int) ≤ (c : Int) := by omega
  have heq := fun W => run_eq4 (s % 256) (s / 256 % 256) (s / 65536 % 256) (s / 16777216) (bt l n) (bt l (n + 1)) (bt l (n + 2)) (bt l (n + 3)) W
  have j0 : 0 ≤ (n : Int) := by omega
  have j1 : 0 ≤ (n : Int) + 1 := by omega
  have j2 : 0 ≤ (n : Int) + 2 := by omega
  have j3 : 0 ≤ (n : Int) + 3 := by omega
  go_region_held3 (fun w' => Below w.heap.size w w' ∧ w'.cell? ⟨b, off + n, none⟩ = some (.int .u8 (bt l n)) ∧ w'.cell? ⟨b, off + (n + 1), none⟩ = some (.int .u8 (bt l (n + 1))) ∧ w'.cell? ⟨b, off + (n + 2), none⟩ = some (.int .u8 (bt l (n + 2))) ∧ w'.cell? ⟨b, off + (n + 3), none⟩ = some (.int .u8 (bt l (n + 3)))) (first | assumption | (refine ⟨(Below.refl _ _).drew, ?_, ?_, ?_, ?_⟩ <;> assumption) | (exact held4 (by assumption) (by assumption))) (first
    | (go_at_call 59; refine (HF.out _ (by go_split_ands; assumption)).mono ?_; rintro e w1 ⟨rfl, hb1⟩))
  go_wp2
  go_ret
  exact ⟨rfl, And.left (by assumption)⟩

theorem sealed_short (w : World) (A : Option Addr) (n c : Nat) (hn : n < 4) : Calls Try.prog 37 #[.slice A n c] w fun e w' => e = .returned (.bool false) ∧ Below w.heap.size w w' := by
  go_enter Try.func37, Try.ntmps37
  go_wp2
  go_ret
  exact ⟨rfl, Below.refl _ _⟩
end Go.Proofs.Ytlehpgokjppccaa
