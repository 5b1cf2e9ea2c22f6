/- Walk: tomelaw08.awake. -/
import Derived.Test.YtlehpgokjppccaaHdZ
import Derived.Test.YtlehpgokjppccaaHdQ
import Derived.Test.YtlehpgokjppccaaSumG
namespace Go.Proofs.Ytlehpgokjppccaa
open Go.RowKit
set_option maxRecDepth 100000

def HYes (w : World) (e : Ending) (w' : World) : Prop := e = .returned (.bool true) ∧ Below w.heap.size w w'
def H0 : Hd := ⟨256, 1, 0, 0, 0, 0⟩
theorem H0_good : H0.good := by decide
theorem H0_bytes : ((headL H0).drop 16).take 8 = [0, 0, 1, 0, 0, 0, 0, 1] := by
  rw [headL, List.drop_append_of_le_length (by rw [bodyL_length]; decide), List.take_append_of_le_length (by rw [List.length_drop, bodyL_length]; decide)]
  decide +kernel
theorem rd_drop {w : World} {g off : Nat} {l : List Int} (h : Rd w (some ⟨g, off, none⟩) l) (k : Nat) : Rd w (some ⟨g, off + k, none⟩) (l.drop k) := by
  rcases h with rfl | ⟨b, o, he, hc⟩
  · exact .inl (by simp)
  · cases he
    refine .inr ⟨_, _, rfl, fun i hi => ?_⟩
    simp at hi
    have := hc (k + i) (by omega)
    rw [show off + k + i = off + (k + i) by omega, this, bt_drop]

set_option maxHeartbeats 4000000 in
theorem hawake_any (w : World) : Calls Try.prog 12 #[] w (HYes w) := by
  go_enter Try.func12, Try.ntmps12
  go_wp2_with fail
  refine (encode_any _ H0 (by unfold Hd.ok i64ok H0; simp)).mono ?_
  rintro e w1 ⟨A, n, c, rfl, hown, hb1⟩
  have hc : checkI H0 = 0 := check_yes H0_good
  simp only [hc]
  clear hc
  rw [encL_yes H0_good] at hown
  have hn : 64 = n := by rw [← hown.len, headL_length]
  subst hn
  obtain ⟨g, rfl, _, _⟩ := hown.at (by decide)
  obtain ⟨hc1, hc2⟩ := hown.cap
  have hc24 : 24 ≤ c := by omega
  have hrd := rd_take (rd_drop hown.rd 16) 8
  rw [H0_bytes, Nat.zero_add] at hrd
  have HR := Lib.hid hrd; clear hrd hown
  go_wp2_with fail
  refine (same1_any _ (some ⟨g, 16, none⟩) _ 8 _ 8 _ _ [0, 0, 1, 0, 0, 0, 0, 1] rfl rfl (by decide) (HR.out.keep ((Below.refl _ _).alloc (Nat.le_refl _) _)) (Rd.lit (heap_alloc_new w1 _) rfl)).mono ?_
  rintro e w2 ⟨rfl, hb2⟩
  simp only [beqL_self]
  have hB2 : Below w.heap.size w w2 := (hb1.alloc hb1.size _).trans (hb2.mono (by simp; have := hb1.size; omega))
  clear hb2
  go_wp2_with fail
  refine (check_any _ ⟨256, 5, 2, 0, 0, 0⟩ (by unfold Hd.ok i64ok; simp)).mono ?_
  rintro e w3 ⟨rfl, hb3⟩
  have hc : checkI ⟨256, 5, 2, 0, 0, 0⟩ = 1 := by decide
  simp only [hc]
  clear hc
  have hB3 := hB2.trans (hb3.mono hB2.size)
  clear hb3
  go_wp2
  go_ret
  exact ⟨rfl, hB3⟩
end Go.Proofs.Ytlehpgokjppccaa
