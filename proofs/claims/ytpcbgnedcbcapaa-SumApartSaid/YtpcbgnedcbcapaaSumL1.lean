/- The walks of the laws SumTells, SumTurned. -/
import Derived.Test.YtpcbgnedcbcapaaSumG
import Derived.Test.YtpcbgnedcbcapaaNextLaw
namespace Go.Proofs.Ytpcbgnedcbcapaa
open Go.RowKit

/-- What a law comes to. -/
def Yes (w : World) (e : Ending) (w' : World) : Prop := e = .returned (.bool true) ∧ Below w.heap.size w w'

theorem rsum2_any (w : World) (A : Option Addr) (n c : Nat) (l : List Int) (hn : l.length = n) (hm : n ≤ 9223372036854775807) (hA : Rd w A l) (il : IsB l) :
    Calls Try.prog 17 #[.slice A n c] w fun e w' => e = .returned (.int .u32 (sumI l)) ∧ w = w' := by
  rw [← sum_ref il]; exact rsum_any w A n c l hn hm hA il

theorem RdRows.one {w : World} {b : Nat} {A : Option Addr} {l : List Int} {c : Nat} (h : w.cell? ⟨b, 0, none⟩ = some (.slice A l.length c)) (hc : l.length ≤ c) (hm : c ≤ maxLen) (hr : Rd w A l) : RdRows w (some ⟨b, 0, none⟩) [l] := by
  refine .inr ⟨b, 0, rfl, fun i hi => ?_⟩
  obtain rfl : i = 0 := by simpa using hi
  exact ⟨A, c, by simpa [rw_] using h, by simpa [rw_] using hc, hm, by simpa [rw_] using hr⟩

theorem sum1_any (w : World) (b : Nat) (A : Option Addr) (n c : Nat) (l : List Int) (hn : l.length = n) (h : w.cell? ⟨b, 0, none⟩ = some (.slice A n c)) (hc : n ≤ c) (hm : c ≤ maxLen) (hr : Rd w A l) (il : IsB l) :
    Calls Try.prog 16 #[.slice (some ⟨b, 0, none⟩) 1 1] w fun e w' => e = .returned (.int .u32 (sumI l)) ∧ Below w.heap.size w w' := by
  subst hn
  have := sum_any w (some ⟨b, 0, none⟩) 1 [l] (RdRows.one h hc hm hr) (by simp [maxLen]) (by simpa using il)
  simpa using this

theorem isB_flatten {L : List (List Int)} (h : ∀ l ∈ L, IsB l) : IsB L.flatten := by
  intro x hx
  obtain ⟨l, hl, hx⟩ := List.mem_flatten.1 hx
  exact h l hl x hx

set_option maxHeartbeats 2000000 in
theorem tells_walk (w : World) (A : Option Addr) (n c : Nat) (L : List (List Int)) (hn : L.length = n) (hnc : n ≤ c) (hcm : c ≤ maxLen) (hL : RdRows w A L) (hB : ∀ l ∈ L, IsB l) :
    Calls Try.prog 3 #[.slice A n c] w (Yes w) := by
  have hm : n ≤ 9223372036854775807 := by unfold maxLen at hcm; omega
  clear hnc hcm
  have HN := Lib.hid hn; clear hn
  have HL := Lib.hid hL; clear hL
  have HB := Lib.hid hB; clear hB
  go_enter Try.func3, Try.ntmps3
  go_wp2_with fail
  refine (all_any w A n c L HN.out hm HL.out).mono ?_
  rintro e w1 ⟨hb1, ⟨hok, rfl⟩ | ⟨hok, A1, m, c1, rfl, hown⟩⟩
  · clear hok
    have hs1 := hb1.size
    go_wp2_with fail
    refine (awake_any _).mono ?_
    rintro e w2 ⟨rfl, hb2⟩
    have hB2 := hb1.trans (hb2.mono hs1)
    have hs2 := hB2.size
    clear hb2
    go_wp2_with fail
    refine (awake_any _).mono ?_
    rintro e w3 ⟨rfl, hb3⟩
    have hB3 := hB2.trans (hb3.mono hs2)
    go_wp2
    go_ret
    exact ⟨rfl, hB3⟩
  · clear hok
    have hs1 := hb1.size
    have HO := Lib.hid hown; clear hown
    go_wp2_with fail
    refine (awake_any _).mono ?_
    rintro e w2 ⟨rfl, hb2⟩
    have hB2 := hb1.trans (hb2.mono hs1)
    have hs2 := hB2.size
    have HO2 := Lib.hid (HO.out.keep hb2)
    clear hb2
    go_wp2_with fail
    obtain rfl : L.length = n := HN.out
    refine (sum_any _ _ c L (HL.out.keep hB2) hm HB.out).mono ?_
    rintro e w3 ⟨rfl, hb3⟩
    have hB3 := hB2.trans (hb3.mono hs2)
    have hs3 := hB3.size
    have HO3 := Lib.hid (HO2.out.keep hb3)
    have hmm := HO3.out.cap
    clear hb3
    have hsb := sumI_bd L.flatten
    have hsum1 := fun W (h : Rd W A1 L.flatten) => rsum2_any W A1 m c1 L.flatten HO3.out.len (by have := hmm.1; have := hmm.2; unfold maxLen at *; omega) h (isB_flatten HB.out)
    have HS := Lib.hid hsum1; clear hsum1
    obtain ⟨s, hs⟩ : ∃ x, x = sumI L.flatten := ⟨_, rfl⟩
    have HSS := Lib.hid hs
    rw [← hs] at HS hsb ⊢
    clear hs
    go_wp2_with fail
    refine (HS.out _ HO3.out.rd).mono ?_
    rintro e w4 ⟨rfl, rfl⟩
    go_wp2_with fail
    refine (sum1_any _ _ A1 m c1 L.flatten HO3.out.len (by simp [go_sem]) hmm.1 hmm.2 (HO3.out.alloc _).rd (isB_flatten HB.out)).mono ?_
    rintro e w5 ⟨rfl, hb5⟩
    rw [← HSS.out]
    have hB5 : Below w.heap.size w w5 := (hB3.alloc hs3 _).trans (hb5.mono (by simp; omega))
    have HO5 := Lib.hid ((HO3.out.alloc _).keep hb5)
    clear hb5
    go_wp2_with fail
    refine (HS.out _ HO5.out.rd).mono ?_
    rintro e w6 ⟨rfl, rfl⟩
    go_wp2
    go_ret
    exact ⟨rfl, hB5⟩
end Go.Proofs.Ytpcbgnedcbcapaa
