/- Walks: tomelaw02.all. -/
import Derived.Test.YtlehpgokjppccaaSumB
namespace Go.Proofs.Ytlehpgokjppccaa
open Go.RowKit
set_option maxRecDepth 100000

def AllBack (w : World) (L : List (List Int)) (e : Ending) (w' : World) : Prop :=
  Below w.heap.size w w' ∧ ((okL L = false ∧ e = .returned (.tuple #[.slice none 0 0, .bool false])) ∨
    (okL L = true ∧ ∃ A n c, e = .returned (.tuple #[.slice A n c, .bool true]) ∧ OwnB w' w.heap.size A n c L.flatten))
def AllRel (w : World) (L : List (List Int)) (out i : Value) (wr : World) : Prop :=
  ∃ k A m c, k ≤ L.length ∧ i = .int .i64 (k : Nat) ∧ (∀ j, j < k → (rw_ L j).length ≤ 4000) ∧ out = .slice A m c ∧ OwnB wr w.heap.size A m c (L.take k).flatten ∧ m ≤ 4000 * k ∧ Below w.heap.size w wr

end Go.Proofs.Ytlehpgokjppccaa
