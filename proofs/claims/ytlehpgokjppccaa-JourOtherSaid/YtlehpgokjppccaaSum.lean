/- The walk of sum.table, sum.Sum. -/
import Derived.Test.YtlehpgokjppccaaProg
import Derived.Test.YtlehpgokjppccaaCrc
import Derived.Deep.DeepCutAuto
namespace Go.Proofs.Ytlehpgokjppccaa
open Go.RowKit
set_option maxRecDepth 100000

def TabBack (w : World) (e : Ending) (w' : World) : Prop := e = .returned (.agg #[.int .u32 0, .int .u32 274646895, .int .u32 549293790, .int .u32 820201905, .int .u32 1098587580, .int .u32 1361435347, .int .u32 1640403810, .int .u32 1905808397, .int .u32 2197175160, .int .u32 2460548119, .int .u32 2722870694, .int .u32 2987750089, .int .u32 3280807620, .int .u32 3553878443, .int .u32 3811616794, .int .u32 4084100981]) ∧ Below w.heap.size w w'

section
attribute [local go_sem] u32_and u32_xor
set_option maxRecDepth 100000 in
set_option maxHeartbeats 40000000 in
theorem table_any (w : World) : Calls Try.prog 71 #[] w (TabBack w) := by
  go_enter Try.func71, Try.ntmps71
  go_wp2_with fail
  refine wp_loop_rounds 17 ?_
  repeat (first | (rw [rounds_succ]; go_wp2_with fail) | (refine wp_loop_rounds 5 ?_))
  refine bodyPost_ret (v := .agg #[.int .u32 0, .int .u32 274646895, .int .u32 549293790, .int .u32 820201905, .int .u32 1098587580, .int .u32 1361435347, .int .u32 1640403810, .int .u32 1905808397, .int .u32 2197175160, .int .u32 2460548119, .int .u32 2722870694, .int .u32 2987750089, .int .u32 3280807620, .int .u32 3553878443, .int .u32 3811616794, .int .u32 4084100981]) ?_ rfl ⟨rfl, ?_⟩
  · simp [results, Try.results71, go_sem]
  · go_grown
end

end Go.Proofs.Ytlehpgokjppccaa
