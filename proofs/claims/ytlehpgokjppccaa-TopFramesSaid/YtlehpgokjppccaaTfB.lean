/- Several texts of this proof as one: Crc, Plain, Sum, Sum2, SumB, SumE, SumF, SumG, CrcLaw, CrcLaw2, NextLaw, SumL1. Laid by merge.py. -/
import Derived.Test.YtlehpgokjppccaaTfA
import Derived.ChangeKeysEq
import Derived.Deep.DeepCutAuto
import Derived.Deep.RegionHeld3
import Derived.Deep.RegionLaw
import Derived.Handy
import Derived.Lib.Hide
import Derived.Lib.SmallJoins
import Derived.Maps.AppendAt
import Derived.Test.YtlehpgokjppccaaProg
import Derived.WalkKit
import Derived.WalkSpells
namespace Go.Proofs.Ytlehpgokjppccaa
section
open Go.RowKit
/-- The table's entries. -/
def tabI : List Int := [0, 274646895, 549293790, 820201905, 1098587580, 1361435347, 1640403810, 1905808397, 2197175160, 2460548119, 2722870694, 2987750089, 3280807620, 3553878443, 3811616794, 4084100981]
/-- Four bits of the sum. -/
def nibI (c : Int) : Int := bits .xor .u32 (c / 16) (bt tabI (bits .and .u32 c 15).toNat)
/-- A byte of the sum. -/
def stepI (c x : Int) : Int := nibI (nibI (bits .xor .u32 c x))
/-- The sum from a beginning on. -/
def crcI (c : Int) (l : List Int) : Int := l.foldl stepI c
/-- The sum. -/
def sumI (l : List Int) : Int := bits .xor .u32 4294967295 (crcI 4294967295 l)

theorem bits_u32_bd (op : BinOp) (a b : Int) : 0 ≤ bits op .u32 a b ∧ bits op .u32 a b ≤ 4294967295 := by
  unfold bits
  cases op <;> simp only [IntKind.wrap_u32] <;> omega
theorem and15_bd (a : Int) (h0 : 0 ≤ a) (h1 : a ≤ 4294967295) : 0 ≤ bits .and .u32 a 15 ∧ bits .and .u32 a 15 < 16 := by
  rw [u32_and a 15 h0 (by omega) (by decide) (by decide)]
  have : a.toNat &&& (15 : Int).toNat = a.toNat % 16 := Nat.and_two_pow_sub_one_eq_mod a.toNat 4
  rw [this]
  omega
theorem nibI_bd (c : Int) : 0 ≤ nibI c ∧ nibI c ≤ 4294967295 := bits_u32_bd _ _ _
theorem stepI_bd (c x : Int) : 0 ≤ stepI c x ∧ stepI c x ≤ 4294967295 := nibI_bd _
theorem crcI_bd (c : Int) (l : List Int) (h0 : 0 ≤ c ∧ c ≤ 4294967295) : 0 ≤ crcI c l ∧ crcI c l ≤ 4294967295 := by
  induction l generalizing c with
  | nil => exact h0
  | cons x l ih => exact ih _ (stepI_bd c x)
theorem crcI_snoc (c : Int) (l : List Int) (x : Int) : crcI c (l ++ [x]) = stepI (crcI c l) x := by simp [crcI, List.foldl_append]
theorem crcI_append (c : Int) (l m : List Int) : crcI c (l ++ m) = crcI (crcI c l) m := by simp [crcI, List.foldl_append]

theorem sumI_bd (l : List Int) : 0 ≤ sumI l ∧ sumI l ≤ 4294967295 := bits_u32_bd _ _ _

end
section
open Go.RowKit
/-- One step of the chain, as the walk computes it. -/
def nxI (h x : Int) : Int := IntKind.u64.wrap (bits .xor .u64 h x * 1099511628211)
def nextI (h : Int) (l : List Int) : Int := l.foldl nxI h
theorem nextI_snoc (c : Int) (l : List Int) (x : Int) : nextI c (l ++ [x]) = nxI (nextI c l) x := by simp [nextI, List.foldl_append]

end
section
open Go.RowKit
set_option maxRecDepth 100000
def TabBack (w : World) (e : Ending) (w' : World) : Prop := e = .returned (.agg #[.int .u32 0, .int .u32 274646895, .int .u32 549293790, .int .u32 820201905, .int .u32 1098587580, .int .u32 1361435347, .int .u32 1640403810, .int .u32 1905808397, .int .u32 2197175160, .int .u32 2460548119, .int .u32 2722870694, .int .u32 2987750089, .int .u32 3280807620, .int .u32 3553878443, .int .u32 3811616794, .int .u32 4084100981]) ∧ Below w.heap.size w w'

section
attribute [local go_sem] u32_and u32_xor
set_option maxRecDepth 100000 in
set_option maxHeartbeats 40000000 in
theorem table_any (w : World) : Calls Try.prog 71 #[] w (TabBack w) := by
  go_enter Try.func71, Try.ntmps71
  go_wp2_with fail
  refine wp_loop_rounds 17 ?_
  repeat (first | (rw [rounds_succ]; go_wp2_with fail) | (refine wp_loop_rounds 5 ?_))
  refine bodyPost_ret (v := .agg #[.int .u32 0, .int .u32 274646895, .int .u32 549293790, .int .u32 820201905, .int .u32 1098587580, .int .u32 1361435347, .int .u32 1640403810, .int .u32 1905808397, .int .u32 2197175160, .int .u32 2460548119, .int .u32 2722870694, .int .u32 2987750089, .int .u32 3280807620, .int .u32 3553878443, .int .u32 3811616794, .int .u32 4084100981]) ?_ rfl ⟨rfl, ?_⟩
  · simp [results, Try.results71, go_sem]
  · go_grown
end
end
section
open Go.RowKit
set_option maxRecDepth 100000
def Cut1 (w : World) (s3 : Value) (wx : World) : Prop := ∃ B, s3 = .pointer (some ⟨B, 0, none⟩) ∧ (∀ j : Nat, j < 16 → wx.cell? ⟨B, j, none⟩ = some (.int .u32 (bt tabI j))) ∧ Below w.heap.size w wx

set_option maxRecDepth 100000 in
set_option maxHeartbeats 4000000 in
theorem sum_any (w : World) (A : Option Addr) (c : Nat) (L : List (List Int)) (hL : RdRows w A L) (hn : L.length ≤ maxLen) (hm : ∀ l ∈ L, IsB l):
    Calls Try.prog 63 #[.slice A L.length c] w fun e w' => e = .returned (.int .u32 (sumI L.flatten)) ∧ Below w.heap.size w w' := by
  unfold maxLen at hn
  have HL := Lib.hid hL; clear hL
  have HM := Lib.hid hm; clear hm
  go_enter Try.func63, Try.ntmps63
  go_upto_region 1 with (fail)
  go_cut [3] (fun s3 wx => Cut1 w s3 wx)
  case first =>
    go_wp2_with (go_at_call 71; refine (table_any _).mono ?_; rintro e w' ⟨rfl, hb⟩)
    go_meet
    case rel =>
      have hs := hb.size
      refine ⟨_, rfl, ?_, ?_⟩
      · intro j hj
        rcases (by omega : j = 0 ∨ j = 1 ∨ j = 2 ∨ j = 3 ∨ j = 4 ∨ j = 5 ∨ j = 6 ∨ j = 7 ∨ j = 8 ∨ j = 9 ∨ j = 10 ∨ j = 11 ∨ j = 12 ∨ j = 13 ∨ j = 14 ∨ j = 15) with rfl | rfl | rfl | rfl | rfl | rfl | rfl | rfl | rfl | rfl | rfl | rfl | rfl | rfl | rfl | rfl <;> simp [go_sem, bt, tabI]
      · go_grown
  case rest =>
    obtain ⟨B, rfl, hT, hb⟩ := hcut
    have HT := Lib.hid hT; clear hT
    go_wp2_with fail
    go_loop [4, 12] (fun c i => ∃ k : Nat, k ≤ L.length ∧ i = .int .i64 k ∧ c = .int .u32 (crcI 4294967295 (L.take k).flatten)) (fun _ i => L.length - (intOf i).toNat)
    case atStart => exact ⟨0, Nat.zero_le _, rfl, rfl⟩
    case round =>
      obtain ⟨k, hk, rfl, rfl⟩ := hrel
      obtain ⟨c0, hc0⟩ : ∃ x, x = crcI 4294967295 (L.take k).flatten := ⟨_, rfl⟩
      have bd0 : 0 ≤ c0 ∧ c0 ≤ 4294967295 := by rw [hc0]; exact crcI_bd _ _ (by decide)
      rw [← hc0]
      have HC := Lib.hid hc0; clear hc0
      by_cases hlt : k < L.length
      · obtain ⟨b, off, hA, hbb, hcell⟩ := RdRows.at (HL.out.keep hb) (by omega)
        obtain ⟨A', c', h1, h2, h3, h4⟩ := hcell k hlt
        subst hA
        clear hcell
        obtain ⟨l, hl⟩ : ∃ x, x = rw_ L k := ⟨_, rfl⟩
        rw [← hl] at h1 h2 h4
        have hIsB : IsB l := by rw [hl, rw_lt hlt]; exact HM.out _ (List.getElem_mem _)
        have HIs := Lib.hid hIsB; clear hIsB
        have HLL := Lib.hid hl; clear hl
        have H4 := Lib.hid h4; clear h4
        unfold maxLen at h3
        go_wp2_with fail
        go_loop [4, 18] (fun c i => ∃ m : Nat, m ≤ l.length ∧ i = .int .i64 m ∧ c = .int .u32 (crcI c0 (l.take m))) (fun _ i => l.length - (intOf i).toNat)
        case atStart => exact ⟨0, Nat.zero_le _, rfl, rfl⟩
        case round =>
          obtain ⟨m, hm, rfl, rfl⟩ := hrel
          obtain ⟨c1, hc1⟩ : ∃ x, x = crcI c0 (l.take m) := ⟨_, rfl⟩
          have bd1 : 0 ≤ c1 ∧ c1 ≤ 4294967295 := by rw [hc1]; exact crcI_bd _ _ bd0
          rw [← hc1]
          have HC1 := Lib.hid hc1; clear hc1
          by_cases hlm : m < l.length
          · obtain ⟨b', off', hA', hbb', hcell'⟩ := Rd.at H4.out (by omega)
            subst hA'
            have g1 := hcell' m hlm
            have gb := IsB.bt HIs.out m
            obtain ⟨x, hx⟩ : ∃ x, x = bt l m := ⟨_, rfl⟩
            rw [← hx] at g1 gb
            have HX := Lib.hid hx; clear hx hcell'
            obtain ⟨gb0, gb1⟩ := gb
            obtain ⟨p1, p2⟩ := and15_bd (bits .xor .u32 c1 x) (bits_u32_bd _ _ _).1 (bits_u32_bd _ _ _).2
            have t1 := HT.out (bits .and .u32 (bits .xor .u32 c1 x) 15).toNat (by omega)
            have q0 := (bits_u32_bd .xor c1 x).1
            obtain ⟨p3, p4⟩ := and15_bd (bits .xor .u32 (bits .xor .u32 c1 x / 16) (bt tabI (bits .and .u32 (bits .xor .u32 c1 x) 15).toNat)) (bits_u32_bd _ _ _).1 (bits_u32_bd _ _ _).2
            have t2 := HT.out (bits .and .u32 (bits .xor .u32 (bits .xor .u32 c1 x / 16) (bt tabI (bits .and .u32 (bits .xor .u32 c1 x) 15).toNat)) 15).toNat (by omega)
            have q1 := (bits_u32_bd .xor (bits .xor .u32 c1 x / 16) (bt tabI (bits .and .u32 (bits .xor .u32 c1 x) 15).toNat)).1
            go_wp2_with fail
            go_round
            case rel => exact ⟨m + 1, by omega, by go_num, by rw [take_succ_bt hlm, crcI_snoc, ← HC1.out, ← HX.out]; rfl⟩
            case measure => simp [intOf]; omega
          · obtain rfl : m = l.length := by omega
            go_wp2_with fail
            go_round
            case rel => exact ⟨k + 1, by omega, by go_num, by rw [take_succ_rw hlt, List.flatten_append, crcI_append, ← HC.out, HC1.out, ← HLL.out]; simp⟩
            case measure => simp [intOf]; omega
      · obtain rfl : k = L.length := by omega
        go_wp2_with fail
        go_ret
        refine ⟨ret_int ?_, hb⟩
        rw [HC.out, List.take_length]
        rfl
end
section
open Go.RowKit
set_option maxRecDepth 100000
set_option maxHeartbeats 400000 in
theorem next_any (w : World) (A : Option Addr) (n c : Nat) (l : List Int) (h0 : Int) (hn : l.length = n) (hm : n ≤ 9223372036854775807) (hA : Rd w A l) (il : IsB l) :
    Calls Try.prog 67 #[.int .u64 h0, .slice A n c] w fun e w' => e = .returned (.int .u64 (nextI h0 l)) ∧ w = w' := by
  have HN := Lib.hid hn; clear hn
  have HA := Lib.hid hA; clear hA
  have HI := Lib.hid il; clear il
  go_enter Try.func67, Try.ntmps67
  go_wp2_with fail
  go_loop [0, 9] (fun h i => ∃ k : Nat, k ≤ n ∧ i = .int .i64 k ∧ h = .int .u64 (nextI h0 (l.take k))) (fun _ i => n - (intOf i).toNat)
  case atStart => exact ⟨0, Nat.zero_le _, rfl, rfl⟩
  case round =>
    obtain ⟨k, hk, rfl, rfl⟩ := hrel
    obtain ⟨h1, hh⟩ : ∃ x, x = nextI h0 (l.take k) := ⟨_, rfl⟩
    rw [← hh]
    have HH := Lib.hid hh; clear hh
    by_cases hlt : k < n
    · have hlt' : k < l.length := by rw [HN.out]; exact hlt
      obtain ⟨b, off, hA', hbb, hcell⟩ := Rd.at HA.out (by omega)
      subst hA'
      have g1 := hcell k hlt'
      obtain ⟨gb0, gb1⟩ := IsB.bt HI.out k
      clear hcell
      go_wp2_with fail
      go_round
      case rel => exact ⟨k + 1, by omega, by go_num, by rw [take_succ_bt hlt', nextI_snoc, ← HH.out]; rfl⟩
      case measure => simp [intOf]; omega
    · obtain rfl : k = n := by omega
      go_wp2_with fail
      go_ret
      exact ⟨ret_int (by rw [HH.out, List.take_of_length_le (by rw [HN.out]; exact Nat.le_refl _)]), rfl⟩

end
section
open Go.RowKit
set_option maxRecDepth 100000
def FootBack (w : World) (s : Int) (e : Ending) (w' : World) : Prop := e = .returned (.agg #[.int .u8 (s % 256), .int .u8 (s / 256 % 256), .int .u8 (s / 65536 % 256), .int .u8 (s / 16777216)]) ∧ Below w.heap.size w w'

set_option maxHeartbeats 1000000 in
theorem foot_any (w : World) (A : Option Addr) (n c : Nat) (l : List Int) (hn : l.length = n) (hnc : n ≤ c) (hm : c ≤ maxLen) (hA : Rd w A l) (il : IsB l) :
    Calls Try.prog 59 #[.slice A n c] w (FootBack w (sumI l)) := by
  have hr : RdRows ((w.alloc (.cells #[.int .u8 0, .int .u8 0, .int .u8 0, .int .u8 0] 100)).alloc (.cells #[.slice A n c] 24)) (some ⟨w.heap.size + 1, 0, none⟩) [l] := by
    refine .inr ⟨_, 0, rfl, fun i hi => ?_⟩
    obtain rfl : i = 0 := by simpa using hi
    exact ⟨A, c, by simp [go_sem, rw_, hn], by simpa [rw_, hn] using hnc, hm, by simpa [rw_] using hA.keep (((Below.refl _ _).alloc (Nat.le_refl _) _).alloc (by simp) _)⟩
  have HC := Lib.hid (sum_any _ _ 1 [l] hr (by simp [maxLen]) (by simpa using il))
  simp only [List.flatten_cons, List.flatten_nil, List.append_nil, List.length_cons, List.length_nil, Nat.zero_add] at HC
  clear hr hA
  have hb := sumI_bd l
  obtain ⟨s, hs⟩ : ∃ x, x = sumI l := ⟨_, rfl⟩
  rw [← hs] at HC hb ⊢
  clear hs hn il
  obtain ⟨hb0, hb1⟩ := hb
  go_enter Try.func59, Try.ntmps59
  go_wp2_with (go_at_call 63; refine HC.out.mono ?_; rintro e w' ⟨rfl, hb⟩; have hc : ∀ o, o < 4 → w'.cell? ⟨w.heap.size, o, none⟩ = some (.int .u8 0) := fun o ho => (hb.cell (p := ⟨w.heap.size, o, none⟩) (by simp; omega)).trans (by rcases (by omega : o = 0 ∨ o = 1 ∨ o = 2 ∨ o = 3) with rfl | rfl | rfl | rfl <;> simp [go_sem]); have hf : ∀ o, w'.frozen? ⟨w.heap.size, o, none⟩ = false := fun o => (hb.frozen (p := ⟨w.heap.size, o, none⟩) (by simp; omega)).trans (by simp [go_sem]); clear HC)
  refine bodyPost_ret (v := .agg #[.int .u8 (s % 256), .int .u8 (s / 256 % 256), .int .u8 (s / 65536 % 256), .int .u8 (s / 16777216)]) (by simp [results, Try.results59, go_sem, hc]) rfl ⟨rfl, ?_⟩
  have h1 : Below w.heap.size w w' := ((((Below.refl _ _).alloc (Nat.le_refl _) _).alloc (by simp) _).trans (hb.mono (by simp; omega)))
  exact (((h1.setCell (Nat.le_refl _) _).setCell (Nat.le_refl _) _).setCell (Nat.le_refl _) _).setCell (Nat.le_refl _) _
end
section
open Go.RowKit
set_option maxRecDepth 100000
set_option maxHeartbeats 2000000 in
theorem seal_any (w : World) (A : Option Addr) (n c : Nat) (l : List Int) (hn : l.length = n) (hnc : n ≤ c) (hm : c ≤ maxLen) (hm2 : n ≤ 140737488351232) (hA : Rd w A l) (il : IsB l) :
    Calls Try.prog 38 #[.slice A n c] w (BytesBack w (l ++ [sumI l % 256, sumI l / 256 % 256, sumI l / 65536 % 256, sumI l / 16777216])) := by
  have HF := Lib.hid (foot_any w A n c l hn hnc hm hA il)
  have hmk := fun W => run_mk 0 (n + 4) (by omega) (by omega) W
  simp only [Int.natCast_add, Int.cast_ofNat_Int] at hmk
  obtain ⟨s, hs⟩ : ∃ x, x = sumI l := ⟨_, rfl⟩
  rw [← hs] at HF ⊢
  clear hs
  have HN := Lib.hid hn; clear hn
  have HA := Lib.hid hA; clear hA
  go_enter Try.func38, Try.ntmps38
  go_wp2_with (go_at_call 59; refine HF.out.mono ?_; rintro e w1 ⟨rfl, hb1⟩)
  obtain ⟨wx, hwx⟩ : ∃ x, x = w1.alloc (.cells #[.int .u8 (s % 256), .int .u8 (s / 256 % 256), .int .u8 (s / 65536 % 256), .int .u8 (s / 16777216)] 100) := ⟨_, rfl⟩
  have hbx : Below w.heap.size w wx := by rw [hwx]; exact hb1.alloc hb1.size _
  have hAx := HA.out.keep hbx
  have hys : Rd wx (some ⟨w1.heap.size, 0, none⟩) [s % 256, s / 256 % 256, s / 65536 % 256, s / 16777216] := by
    refine .inr ⟨_, 0, rfl, fun i hi => ?_⟩
    simp at hi
    rw [hwx]
    rcases (by omega : i = 0 ∨ i = 1 ∨ i = 2 ∨ i = 3) with rfl | rfl | rfl | rfl <;> simp [go_sem, bt]
  have hbs := hbx.size
  rw [← hwx]
  have HX := Lib.hid hAx; clear hAx
  have HY := Lib.hid hys; clear hys
  clear hwx
  have hw4 : IntKind.i64.wrap ((n : Int) + 4) = (n : Int) + 4 := IntWalk.i64_in _ (by omega)
  go_region_held3 (fun w' => Below wx.heap.size wx w') (first | assumption | (exact (Below.refl _ _).drew) | (exact Below.alloc (by assumption) (Below.size (by assumption)) _) | (exact Below.trans (by assumption) (by assumption))) (first
    | (refine step_append rfl (.tmp 9) (.tmp 10) rfl wx.heap.size (some ⟨_, 0, none⟩) 0 (n + 4) [] rfl (OwnB.made _ _ _ (by go_size) (by unfold maxLen; omega)) A n c l rfl HN.out (HX.out.keep (by assumption)) (by omega) (Below.size (by assumption)) ?_; intro A1 c1 w2 hown1 _ hb2)
    | (refine step_append rfl (.tmp 11) (.tmp 12) rfl wx.heap.size A1 (0 + n) c1 _ rfl hown1 (some ⟨w1.heap.size, 0, none⟩) 4 4 [s % 256, s / 256 % 256, s / 65536 % 256, s / 16777216] rfl rfl (HY.out.keep (by assumption)) (by omega) (Below.size (by assumption)) ?_; intro A2 c2 w3 hown2 _ hb3))
  go_wp2
  go_ret
  exact ⟨A2, n + 4, c2, rfl, by simpa using hown2.mono hbs, hbx.trans (Below.mono (by assumption) hbs)⟩

theorem info_a4 : (Try.prog.info? 5).isSome = true := by kernel_rfl
theorem cells_u8 : Try.prog.cellsOf 5 = 1 := by kernel_rfl
/-- '==' on two arrays of four bytes. -/
theorem run_eq4 (a0 a1 a2 a3 b0 b1 b2 b3 : Int) (W : World) : (Op.equalIn 10000 100 (.agg #[.int .u8 a0, .int .u8 a1, .int .u8 a2, .int .u8 a3]) (.agg #[.int .u8 b0, .int .u8 b1, .int .u8 b2, .int .u8 b3])).run Try.prog W = .ok (beqL [a0, a1, a2, a3] [b0, b1, b2, b3]) W := by
  obtain ⟨i, hi⟩ := Option.isSome_iff_exists.1 info_a4
  rw [run_equalIn_array W 9999 _ _ Try.underlying100 hi, cells_u8]
  simp only [List.range, List.range.loop, Op.eqItems, Sem.run_bind, beqL]
  by_cases h0 : a0 = b0 <;> by_cases h1 : a1 = b1 <;> by_cases h2 : a2 = b2 <;> by_cases h3 : a3 = b3 <;> simp [go_sem, h0, h1, h2, h3]

theorem held4 {w W w1 : World} {p0 p1 p2 p3 : Addr} {v0 v1 v2 v3 : Value} (h : Below w.heap.size w W ∧ W.cell? p0 = some v0 ∧ W.cell? p1 = some v1 ∧ W.cell? p2 = some v2 ∧ W.cell? p3 = some v3) (hb : Below W.heap.size W w1) :
    Below w.heap.size w w1 ∧ w1.cell? p0 = some v0 ∧ w1.cell? p1 = some v1 ∧ w1.cell? p2 = some v2 ∧ w1.cell? p3 = some v3 :=
  ⟨h.1.trans (hb.mono h.1.size), (hb.cell (World.block_lt_of_cell? _ _ h.2.1)).trans h.2.1, (hb.cell (World.block_lt_of_cell? _ _ h.2.2.1)).trans h.2.2.1, (hb.cell (World.block_lt_of_cell? _ _ h.2.2.2.1)).trans h.2.2.2.1, (hb.cell (World.block_lt_of_cell? _ _ h.2.2.2.2)).trans h.2.2.2.2⟩

set_option maxHeartbeats 2000000 in
theorem sealed_any (w : World) (A : Option Addr) (n c : Nat) (l : List Int) (hn : l.length = n + 4) (hnc : n + 4 ≤ c) (hm : c ≤ maxLen) (hA : Rd w A l) (il : IsB l) :
    Calls Try.prog 37 #[.slice A ((n + 4 : Nat) : Nat) c] w fun e w' => e = .returned (.bool (beqL [sumI (l.take n) % 256, sumI (l.take n) / 256 % 256, sumI (l.take n) / 65536 % 256, sumI (l.take n) / 16777216] [bt l n, bt l (n + 1), bt l (n + 2), bt l (n + 3)])) ∧ Below w.heap.size w w' := by
  obtain ⟨b, off, hAA, hbl, hcell⟩ := Rd.at hA (by omega)
  subst hAA
  have hA' : Rd w (some ⟨b, off, none⟩) (l.take n) := by
    refine .inr ⟨b, off, rfl, fun i hi => ?_⟩
    have hi' : i < n := by simp at hi; omega
    rw [hcell i (by omega)]
    rw [bt_lt (by omega), bt_lt hi]
    simp
  have HF := Lib.hid (fun W (hb : Below w.heap.size w W) => foot_any W _ n c (l.take n) (by simp; omega) (by omega) hm (hA'.keep hb) (fun x hx => il x (List.mem_of_mem_take hx)))
  have c0 := hcell n (by omega)
  have c1 := hcell (n + 1) (by omega)
  have c2 := hcell (n + 2) (by omega)
  have c3 := hcell (n + 3) (by omega)
  obtain ⟨s, hs⟩ : ∃ x, x = sumI (l.take n) := ⟨_, rfl⟩
  rw [← hs] at HF ⊢
  clear hs hcell hA hA' hn
  unfold maxLen at hm
  have HI := Lib.hid il; clear il
  go_enter Try.func37, Try.ntmps37
  go_wp2_with fail
  have e1 : IntKind.i64.wrap ((n : Int) + 1) = (n : Int) + 1 := IntWalk.i64_in _ (by omega)
  have e2 : IntKind.i64.wrap ((n : Int) + 2) = (n : Int) + 2 := IntWalk.i64_in _ (by omega)
  have e3 : IntKind.i64.wrap ((n : Int) + 3) = (n : Int) + 3 := IntWalk.i64_in _ (by omega)
  have f0 : ((n : Int)).toNat = n := by omega
  have f1 : ((n : Int) + 1).toNat = n + 1 := by omega
  have f2 : ((n : Int) + 2).toNat = n + 2 := by omega
  have f3 : ((n : Int) + 3).toNat = n + 3 := by omega
  have i0 : (n : Int) < (n : Int) + 4 := by omega
  have i1 : (n : Int) + 1 < (n : Int) + 4 := by omega
  have i2 : (n : Int) + 2 < (n : Int) + 4 := by omega
  have i3 : (n : Int) + 3 < (n : Int) + 4 := by omega
  have k0 : (n : Int) ≤ (c : Int) := by omega
  have heq := fun W => run_eq4 (s % 256) (s / 256 % 256) (s / 65536 % 256) (s / 16777216) (bt l n) (bt l (n + 1)) (bt l (n + 2)) (bt l (n + 3)) W
  have j0 : 0 ≤ (n : Int) := by omega
  have j1 : 0 ≤ (n : Int) + 1 := by omega
  have j2 : 0 ≤ (n : Int) + 2 := by omega
  have j3 : 0 ≤ (n : Int) + 3 := by omega
  go_region_held3 (fun w' => Below w.heap.size w w' ∧ w'.cell? ⟨b, off + n, none⟩ = some (.int .u8 (bt l n)) ∧ w'.cell? ⟨b, off + (n + 1), none⟩ = some (.int .u8 (bt l (n + 1))) ∧ w'.cell? ⟨b, off + (n + 2), none⟩ = some (.int .u8 (bt l (n + 2))) ∧ w'.cell? ⟨b, off + (n + 3), none⟩ = some (.int .u8 (bt l (n + 3)))) (first | assumption | (refine ⟨(Below.refl _ _).drew, ?_, ?_, ?_, ?_⟩ <;> assumption) | (exact held4 (by assumption) (by assumption))) (first
    | (go_at_call 59; refine (HF.out _ (by go_split_ands; assumption)).mono ?_; rintro e w1 ⟨rfl, hb1⟩))
  go_wp2
  go_ret
  exact ⟨rfl, And.left (by assumption)⟩

end
section
open Go.RowKit
/-- Bytes written out in a new block. -/
theorem Rd.lit {w : World} {b : Nat} {cs : Array Value} {t : TypeId} {fr : Nat × Nat} {l : List Int} (h : w.heap[b]? = some (.cells cs t fr)) (hcs : cs.toList = l.map (Value.int .u8)) : Rd w (some ⟨b, 0, none⟩) l := by
  refine .inr ⟨b, 0, rfl, fun i hi => ?_⟩
  rw [cell_of_row w b (0 + i) cs t fr h, ← Array.getElem?_toList, hcs, bt_lt hi]
  simp [hi]

end
section
open Go.RowKit
/-- The number that bytes are, the lowest first. -/
def wd : List Nat → Nat
  | [] => 0
  | x :: l => x ^^^ (256 * wd l)
end
section
open Go.RowKit
theorem IsB.append {l m : List Int} (hl : IsB l) (hm : IsB m) : IsB (l ++ m) := by
  intro x hx
  rcases List.mem_append.1 hx with h | h
  · exact hl x h
  · exact hm x h
theorem IsB.take {l : List Int} (h : IsB l) (n : Nat) : IsB (l.take n) := fun x hx => h x (List.mem_of_mem_take hx)
theorem IsB.drop {l : List Int} (h : IsB l) (n : Nat) : IsB (l.drop n) := fun x hx => h x (List.mem_of_mem_drop hx)

end
section
open Go.RowKit
/-- One step of the chain. -/
def nx (h x : Nat) : Nat := ((h ^^^ x) * 1099511628211) % 18446744073709551616
end
section
open Go.RowKit
theorem RdRows.one {w : World} {b : Nat} {A : Option Addr} {l : List Int} {c : Nat} (h : w.cell? ⟨b, 0, none⟩ = some (.slice A l.length c)) (hc : l.length ≤ c) (hm : c ≤ maxLen) (hr : Rd w A l) : RdRows w (some ⟨b, 0, none⟩) [l] := by
  refine .inr ⟨b, 0, rfl, fun i hi => ?_⟩
  obtain rfl : i = 0 := by simpa using hi
  exact ⟨A, c, by simpa [rw_] using h, by simpa [rw_] using hc, hm, by simpa [rw_] using hr⟩

theorem sum1_any (w : World) (b : Nat) (A : Option Addr) (n c : Nat) (l : List Int) (hn : l.length = n) (h : w.cell? ⟨b, 0, none⟩ = some (.slice A n c)) (hc : n ≤ c) (hm : c ≤ maxLen) (hr : Rd w A l) (il : IsB l) :
    Calls Try.prog 63 #[.slice (some ⟨b, 0, none⟩) 1 1] w fun e w' => e = .returned (.int .u32 (sumI l)) ∧ Below w.heap.size w w' := by
  subst hn
  have := sum_any w (some ⟨b, 0, none⟩) 1 [l] (RdRows.one h hc hm hr) (by simp [maxLen]) (by simpa using il)
  simpa using this

end
end Go.Proofs.Ytlehpgokjppccaa
