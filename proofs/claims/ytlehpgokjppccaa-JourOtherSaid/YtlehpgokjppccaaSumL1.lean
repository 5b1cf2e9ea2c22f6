/- The walks of the laws SumTells, SumTurned. -/
import Derived.Test.YtlehpgokjppccaaSumG
import Derived.Test.YtlehpgokjppccaaNextLaw
namespace Go.Proofs.Ytlehpgokjppccaa
open Go.RowKit

/-- What a law comes to. -/
def Yes (w : World) (e : Ending) (w' : World) : Prop := e = .returned (.bool true) ∧ Below w.heap.size w w'

theorem rsum2_any (w : World) (A : Option Addr) (n c : Nat) (l : List Int) (hn : l.length = n) (hm : n ≤ 9223372036854775807) (hA : Rd w A l) (il : IsB l) :
    Calls Try.prog 41 #[.slice A n c] w fun e w' => e = .returned (.int .u32 (sumI l)) ∧ w = w' := by
  rw [← sum_ref il]; exact rsum_any w A n c l hn hm hA il

theorem RdRows.one {w : World} {b : Nat} {A : Option Addr} {l : List Int} {c : Nat} (h : w.cell? ⟨b, 0, none⟩ = some (.slice A l.length c)) (hc : l.length ≤ c) (hm : c ≤ maxLen) (hr : Rd w A l) : RdRows w (some ⟨b, 0, none⟩) [l] := by
  refine .inr ⟨b, 0, rfl, fun i hi => ?_⟩
  obtain rfl : i = 0 := by simpa using hi
  exact ⟨A, c, by simpa [rw_] using h, by simpa [rw_] using hc, hm, by simpa [rw_] using hr⟩

theorem sum1_any (w : World) (b : Nat) (A : Option Addr) (n c : Nat) (l : List Int) (hn : l.length = n) (h : w.cell? ⟨b, 0, none⟩ = some (.slice A n c)) (hc : n ≤ c) (hm : c ≤ maxLen) (hr : Rd w A l) (il : IsB l) :
    Calls Try.prog 63 #[.slice (some ⟨b, 0, none⟩) 1 1] w fun e w' => e = .returned (.int .u32 (sumI l)) ∧ Below w.heap.size w w' := by
  subst hn
  have := sum_any w (some ⟨b, 0, none⟩) 1 [l] (RdRows.one h hc hm hr) (by simp [maxLen]) (by simpa using il)
  simpa using this

theorem isB_flatten {L : List (List Int)} (h : ∀ l ∈ L, IsB l) : IsB L.flatten := by
  intro x hx
  obtain ⟨l, hl, hx⟩ := List.mem_flatten.1 hx
  exact h l hl x hx

end Go.Proofs.Ytlehpgokjppccaa
