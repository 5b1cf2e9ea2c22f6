/- Walks: tomeref02.Turned, tomeref02.Seal. -/
import Derived.Test.YtlehpgokjppccaaSumC
namespace Go.Proofs.Ytlehpgokjppccaa
open Go.RowKit
set_option maxRecDepth 100000

def TurnRel (w : World) (l : List Int) (at_ : Nat) (b0 : Int) (A : Option Addr) (n c : Nat) (by_ k : Value) (wr : World) : Prop :=
  ∃ (j : Nat) (b : Int) (l' : List Int), j ≤ 4 ∧ k = .int .i64 j ∧ by_ = .int .u32 b ∧ 0 ≤ b ∧ b ≤ 4294967295 ∧ turnN at_ l b0 j = (l', b) ∧ OwnB wr w.heap.size A n c l' ∧ Below w.heap.size w wr

set_option maxHeartbeats 2000000 in
theorem turned_any (w : World) (A : Option Addr) (n c : Nat) (l : List Int) (at_ : Nat) (b0 : Int) (hn : l.length = n) (hm : n ≤ 140737488351232) (hat : at_ ≤ 140737488351232) (hb0 : 0 ≤ b0) (hb1 : b0 ≤ 4294967295) (hA : Rd w A l) :
    Calls Try.prog 20 #[.slice A n c, .int .i64 at_, .int .u32 b0] w (BytesBack w (turnN at_ l b0 4).1) := by
  have HN := Lib.hid hn; clear hn
  have HA := Lib.hid hA; clear hA
  go_enter Try.func20, Try.ntmps20
  go_wp2_with (at_builtin; refine wp_append rfl (.tmp 9) (.tmp 10) rfl w.heap.size _ _ _ [] rfl (OwnB.lit w #[] [] _ 0 rfl rfl (Nat.le_refl _) (by decide)) A n c l rfl HN.out (HA.out.keep ((Below.refl _ _).alloc (Nat.le_refl _) _)) (by omega) (by simp) ?_; intro A1 c1 w1 hown1 _ hb1')
  have hb2 : Below w.heap.size w w1 := ((Below.refl _ _).alloc (Nat.le_refl _) _).trans hb1'
  clear hb1'
  have HO := Lib.hid hown1; clear hown1
  go_loopw [2, 8] (fun by_ k wr => TurnRel w l at_ b0 A1 n c1 by_ k wr) (fun _ k _ => 4 - (intOf k).toNat)
  case atStart => exact ⟨0, b0, l, by omega, rfl, rfl, hb0, hb1, rfl, by simpa using HO.out, hb2⟩
  case round =>
    obtain ⟨j, b, l', hj, rfl, rfl, hbb0, hbb1, ht, hown, hb3⟩ := hrel
    have hlen := hown.len
    have HT := Lib.hid ht; clear ht
    have HL := Lib.hid hlen; clear hlen
    by_cases hj4 : j < 4
    · by_cases hin : at_ + j < n
      · obtain ⟨g, hA2, hg1, hg2⟩ := hown.at (by omega)
        subst hA2
        have hc := hown.cellAt (at_ + j) hin
        have hf := hown.frozenAt (at_ + j)
        have HO2 := Lib.hid hown; clear hown
        go_wp2_with fail
        go_roundw
        case rel =>
          refine ⟨j + 1, b / 256, _, by omega, by go_num, rfl, by omega, by omega, by rw [turnN, HT.out], ?_, hb3.setCell hg1 _⟩
          rw [turn1, if_pos (by rw [HL.out]; exact hin)]
          exact HO2.out.stored _ _
        case measure => simp [intOf]; omega
      · have HO2 := Lib.hid hown; clear hown
        go_wp2_with fail
        go_roundw
        case rel =>
          refine ⟨j + 1, b / 256, _, by omega, by go_num, rfl, by omega, by omega, by rw [turnN, HT.out], ?_, hb3⟩
          rw [turn1, if_neg (by rw [HL.out]; exact hin)]
          exact HO2.out
        case measure => simp [intOf]; omega
    · obtain rfl : j = 4 := by omega
      have HO2 := Lib.hid hown; clear hown
      go_wp2_with fail
      go_ret
      exact ⟨A1, n, c1, rfl, by rw [HT.out]; exact HO2.out, hb3⟩

end Go.Proofs.Ytlehpgokjppccaa
