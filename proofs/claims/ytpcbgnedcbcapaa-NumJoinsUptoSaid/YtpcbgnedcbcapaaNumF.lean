/- The walks of the laws NumFixed, NumVarint. -/
import Derived.Test.YtpcbgnedcbcapaaNumL
namespace Go.Proofs.Ytpcbgnedcbcapaa
open Go.RowKit

def NYes (w : World) (e : Ending) (w' : World) : Prop := e = .returned (.bool true) ∧ Below w.heap.size w w'

set_option maxRecDepth 100000 in
set_option maxHeartbeats 4000000 in
theorem nfixed_walk (w : World) (x size : Int) (A : Option Addr) (n c : Nat) (l : List Int) (at_ : Int) (hx : 0 ≤ x ∧ x ≤ 18446744073709551615) (_hs : -9223372036854775808 ≤ size ∧ size ≤ 9223372036854775807)
    (hn : l.length = n) (hnc : n ≤ c) (hcm : c ≤ maxLen) (hA : Rd w A l) (hB : IsB l) (ha : -9223372036854775808 ≤ at_ ∧ at_ ≤ 9223372036854775807) :
    Calls Try.prog 9 #[.int .u64 x, .int .i64 size, .agg #[.slice A n c, .int .i64 at_]] w (NYes w) := by
  obtain ⟨hx0, hx1⟩ := hx
  have HL := Lib.hid hA; clear hA
  have HB := Lib.hid hB; clear hB
  go_enter Try.func9, Try.ntmps9
  go_wp2_with fail
  refine (read_any _ A n c l at_ size hn hnc hcm (HL.out.keep ((Below.refl _ _).alloc (Nat.le_refl _) _)) HB.out ha).mono ?_
  rintro e w1 ⟨rfl, rfl⟩
  go_wp2_with fail
  refine (rread_any _ A n c l at_ size hn hnc hcm (HL.out.keep ((Below.refl _ _).alloc (Nat.le_refl _) _)) HB.out ha).mono ?_
  rintro e w2 ⟨rfl, rfl⟩
  go_wp2_with fail
  refine (live_any _).mono ?_
  rintro e w3 ⟨rfl, hb⟩
  have hB3 : Below w.heap.size w w3 := ((Below.refl _ _).alloc (Nat.le_refl _) _).trans (hb.mono (by simp))
  have hS3 := hB3.size
  clear hb
  go_wp2_with fail
  refine (fixed_any _ x size hx0 hx1).mono ?_
  rintro e w4 ⟨A1, n1, c1, rfl, hown, hb⟩
  have HO := Lib.hid hown; clear hown
  have hB4 := hB3.trans (hb.mono hS3)
  have hS4 := hB4.size
  clear hb
  go_wp2_with fail
  refine (rfixed_any _ x size hx0 hx1).mono ?_
  rintro e w5 ⟨A2, n2, c2, rfl, hown, hb⟩
  have HO2 := Lib.hid hown; clear hown
  have HO' := Lib.hid (HO.out.keep hb)
  have hB5 := hB4.trans (hb.mono hS4)
  have hS5 := hB5.size
  clear hb
  have hm := HO.out.cap
  unfold maxLen at hm
  go_wp2_with fail
  refine (same1_any _ A1 A2 n1 c1 n2 c2 _ _ HO.out.len HO2.out.len (by omega) HO'.out.rd HO2.out.rd).mono ?_
  rintro e w6 ⟨rfl, hb⟩
  have hB6 := hB5.trans (hb.mono hS5)
  clear hb
  simp only [beqL_self]
  go_wp2
  go_ret
  exact ⟨rfl, hB6⟩

set_option maxRecDepth 100000 in
set_option maxHeartbeats 4000000 in
theorem nvarint_walk (w : World) (x : Int) (A : Option Addr) (n c : Nat) (l : List Int) (at_ : Int) (hx : -9223372036854775808 ≤ x ∧ x ≤ 9223372036854775807)
    (hn : l.length = n) (hnc : n ≤ c) (hcm : c ≤ maxLen) (hA : Rd w A l) (hB : IsB l) (ha : -9223372036854775808 ≤ at_ ∧ at_ ≤ 9223372036854775807) :
    Calls Try.prog 10 #[.int .i64 x, .agg #[.slice A n c, .int .i64 at_]] w (NYes w) := by
  have HX := Lib.hid hx; clear hx
  have HL := Lib.hid hA; clear hA
  have HB := Lib.hid hB; clear hB
  have hm : n ≤ 9223372036854775807 := by unfold maxLen at hcm; omega
  go_enter Try.func10, Try.ntmps10
  go_wp2_with fail
  refine (unv_any _ A n c l at_ hn hnc hcm (HL.out.keep ((Below.refl _ _).alloc (Nat.le_refl _) _)) HB.out ha).mono ?_
  rintro e w1 ⟨rfl, rfl⟩
  go_wp2_with fail
  refine (runv_any _ A n c l at_ hn hm (HL.out.keep ((Below.refl _ _).alloc (Nat.le_refl _) _)) HB.out ha).mono ?_
  rintro e w2 ⟨rfl, hb⟩
  have hB2 : Below w.heap.size w w2 := ((Below.refl _ _).alloc (Nat.le_refl _) _).trans (hb.mono (by simp))
  have hS2 := hB2.size
  clear hb
  go_wp2_with fail
  refine (live_any _).mono ?_
  rintro e w3 ⟨rfl, hb⟩
  have hB3 := hB2.trans (hb.mono hS2)
  have hS3 := hB3.size
  clear hb
  go_wp2_with fail
  refine (varint_any _ x HX.out).mono ?_
  rintro e w4 ⟨A1, n1, c1, rfl, hown, hb⟩
  have HO := Lib.hid hown; clear hown
  have hB4 := hB3.trans (hb.mono hS3)
  have hS4 := hB4.size
  clear hb
  go_wp2_with fail
  refine (rvarint_any _ x HX.out).mono ?_
  rintro e w5 ⟨A2, n2, c2, rfl, hown, hb⟩
  have HO2 := Lib.hid hown; clear hown
  have HO' := Lib.hid (HO.out.keep hb)
  have hB5 := hB4.trans (hb.mono hS4)
  have hS5 := hB5.size
  clear hb
  have hm := HO.out.cap
  unfold maxLen at hm
  go_wp2_with fail
  refine (same1_any _ A1 A2 n1 c1 n2 c2 _ _ HO.out.len HO2.out.len (by omega) HO'.out.rd HO2.out.rd).mono ?_
  rintro e w6 ⟨rfl, hb⟩
  have hB6 := hB5.trans (hb.mono hS5)
  clear hb
  simp only [beqL_self]
  go_wp2
  go_ret
  exact ⟨rfl, hB6⟩
end Go.Proofs.Ytpcbgnedcbcapaa
