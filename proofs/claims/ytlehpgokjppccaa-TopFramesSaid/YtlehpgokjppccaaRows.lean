/-
  No cell of these rows narrows 'for every input' (looked for: loops, veiled, ifaces, maps, wideKeys, modest, calm, conditions, laid).
  DERIVED. THE GIVEN ROWS OF THIS SEAT. 9 by the template 'for every input the law returns true; each argument reads behind the call as it read before'; 0 by the template 'total and deterministic' (their statements: YtlehpgokjppccaaTotals.lean).
  GIVEN WITH THE SEED: the statements are not yours to turn. If you find one false, say at which input.
  Laid BY PROGRAM, IN A SANDBOX (cutbox-rows.mjs): the forced cells as the released guide's own fill.sh prints them over the translation e9abff4dcb40f8b7… (all of the seat's roots in one cut). By AI agents, Wed Nov 11 2026. No macro, syntax, notation, axiom, sorry.
-/
import Derived.Test.YtlehpgokjppccaaChecked
import GoSem.Claim
import GoSem.ClaimJoined
import GoSem.ClaimMapViews
import Derived.JoinedTies
import Derived.KernelRfl
namespace Go.Proofs.Ytlehpgokjppccaa
/- THE CELL 'sum', in the pinned program and in every row, IS THE sha256 OF THE DUMP (.gsa) THAT YtlehpgokjppccaaProg.lean LOADS. Nothing in Lean hashes anything: it is a label: what it is worth is what the hold of that sum in a sandbox is worth. -/
noncomputable def Try.pinned : Pinned := { name := "ytlehpgokjppccaa", sum := "e9abff4dcb40f8b7a9675bca63fc25d2515e7688cd23e8c773fe451e9c38f378", checked := Try.checked }
namespace Rows
def none {H : Type} : Left H := { results := [], args := [] }

/-- 'tomelaw08.HeaderEncodes': WHATEVER THE INPUT: true; the input reads as it did. -/
def headerEncodesSpec : ChangeSpec := { name := "headerEncodes", fn := fun _ => fun
  | [d1, d2] => { results := [.lit (.bool true)], args := [d1, d2] }
  | _ => none }
def headerEncodesRow : OpenClaim := { program := "ytlehpgokjppccaa", sum := "e9abff4dcb40f8b7a9675bca63fc25d2515e7688cd23e8c773fe451e9c38f378", func := "tome/tomelaw08.HeaderEncodes", spec := "headerEncodes", unfollowed := true, recurses := true, apart := false }
def HeaderEncodesSaid : Prop := headerEncodesRow.holds Try.pinned (OpenSpec.ofChange headerEncodesSpec)

/-- ITS FALSE NEIGHBOUR: 'it returns false'. Refute it at one input. -/
def headerEncodesWrong : ChangeSpec := { name := "headerEncodes", fn := fun _ => fun
  | [d1, d2] => { results := [.lit (.bool false)], args := [d1, d2] }
  | _ => none }
def HeaderEncodesWrongFalsely : Prop := headerEncodesRow.holds Try.pinned (OpenSpec.ofChange headerEncodesWrong)

/-- 'tomelaw08.HeaderDecodes': WHATEVER THE INPUT: true; the input reads as it did. -/
def headerDecodesSpec : ChangeSpec := { name := "headerDecodes", fn := fun _ => fun
  | [d] => { results := [.lit (.bool true)], args := [d] }
  | _ => none }
def headerDecodesRow : OpenClaim := { program := "ytlehpgokjppccaa", sum := "e9abff4dcb40f8b7a9675bca63fc25d2515e7688cd23e8c773fe451e9c38f378", func := "tome/tomelaw08.HeaderDecodes", spec := "headerDecodes", unfollowed := true, recurses := true, apart := false }
def HeaderDecodesSaid : Prop := headerDecodesRow.holds Try.pinned (OpenSpec.ofChange headerDecodesSpec)

/-- ITS FALSE NEIGHBOUR: 'it returns false'. Refute it at one input. -/
def headerDecodesWrong : ChangeSpec := { name := "headerDecodes", fn := fun _ => fun
  | [d] => { results := [.lit (.bool false)], args := [d] }
  | _ => none }
def HeaderDecodesWrongFalsely : Prop := headerDecodesRow.holds Try.pinned (OpenSpec.ofChange headerDecodesWrong)

/-- 'tomelaw08.HeaderTurned': WHATEVER THE INPUT: true; the input reads as it did. -/
def headerTurnedSpec : ChangeSpec := { name := "headerTurned", fn := fun _ => fun
  | [d1, d2, d3] => { results := [.lit (.bool true)], args := [d1, d2, d3] }
  | _ => none }
def headerTurnedRow : OpenClaim := { program := "ytlehpgokjppccaa", sum := "e9abff4dcb40f8b7a9675bca63fc25d2515e7688cd23e8c773fe451e9c38f378", func := "tome/tomelaw08.HeaderTurned", spec := "headerTurned", unfollowed := true, recurses := true, apart := false }
def HeaderTurnedSaid : Prop := headerTurnedRow.holds Try.pinned (OpenSpec.ofChange headerTurnedSpec)

/-- ITS FALSE NEIGHBOUR: 'it returns false'. Refute it at one input. -/
def headerTurnedWrong : ChangeSpec := { name := "headerTurned", fn := fun _ => fun
  | [d1, d2, d3] => { results := [.lit (.bool false)], args := [d1, d2, d3] }
  | _ => none }
def HeaderTurnedWrongFalsely : Prop := headerTurnedRow.holds Try.pinned (OpenSpec.ofChange headerTurnedWrong)

/-- 'tomelaw11.JourScans': WHATEVER THE INPUT: true; the input reads as it did. -/
def jourScansSpec : ChangeSpec := { name := "jourScans", fn := fun _ => fun
  | [d] => { results := [.lit (.bool true)], args := [d] }
  | _ => none }
def jourScansRow : OpenClaim := { program := "ytlehpgokjppccaa", sum := "e9abff4dcb40f8b7a9675bca63fc25d2515e7688cd23e8c773fe451e9c38f378", func := "tome/tomelaw11.JourScans", spec := "jourScans", inPlace := ["internal/bytealg.MakeNoZero"], apart := false }
def JourScansSaid : Prop := jourScansRow.holds Try.pinned (OpenSpec.ofChange jourScansSpec)

/-- ITS FALSE NEIGHBOUR: 'it returns false'. Refute it at one input. -/
def jourScansWrong : ChangeSpec := { name := "jourScans", fn := fun _ => fun
  | [d] => { results := [.lit (.bool false)], args := [d] }
  | _ => none }
def JourScansWrongFalsely : Prop := jourScansRow.holds Try.pinned (OpenSpec.ofChange jourScansWrong)

/-- 'tomelaw11.JourWrites': WHATEVER THE INPUT: true; the input reads as it did. -/
def jourWritesSpec : ChangeSpec := { name := "jourWrites", fn := fun _ => fun
  | [d1, d2, d3] => { results := [.lit (.bool true)], args := [d1, d2, d3] }
  | _ => none }
def jourWritesRow : OpenClaim := { program := "ytlehpgokjppccaa", sum := "e9abff4dcb40f8b7a9675bca63fc25d2515e7688cd23e8c773fe451e9c38f378", func := "tome/tomelaw11.JourWrites", spec := "jourWrites", inPlace := ["internal/bytealg.MakeNoZero"], apart := false }
def JourWritesSaid : Prop := jourWritesRow.holds Try.pinned (OpenSpec.ofChange jourWritesSpec)

/-- ITS FALSE NEIGHBOUR: 'it returns false'. Refute it at one input. -/
def jourWritesWrong : ChangeSpec := { name := "jourWrites", fn := fun _ => fun
  | [d1, d2, d3] => { results := [.lit (.bool false)], args := [d1, d2, d3] }
  | _ => none }
def JourWritesWrongFalsely : Prop := jourWritesRow.holds Try.pinned (OpenSpec.ofChange jourWritesWrong)

/-- 'tomelaw11.JourCuts': WHATEVER THE INPUT: true; the input reads as it did. -/
def jourCutsSpec : ChangeSpec := { name := "jourCuts", fn := fun _ => fun
  | [d1, d2] => { results := [.lit (.bool true)], args := [d1, d2] }
  | _ => none }
def jourCutsRow : OpenClaim := { program := "ytlehpgokjppccaa", sum := "e9abff4dcb40f8b7a9675bca63fc25d2515e7688cd23e8c773fe451e9c38f378", func := "tome/tomelaw11.JourCuts", spec := "jourCuts", inPlace := ["internal/bytealg.MakeNoZero"], apart := false }
def JourCutsSaid : Prop := jourCutsRow.holds Try.pinned (OpenSpec.ofChange jourCutsSpec)

/-- ITS FALSE NEIGHBOUR: 'it returns false'. Refute it at one input. -/
def jourCutsWrong : ChangeSpec := { name := "jourCuts", fn := fun _ => fun
  | [d1, d2] => { results := [.lit (.bool false)], args := [d1, d2] }
  | _ => none }
def JourCutsWrongFalsely : Prop := jourCutsRow.holds Try.pinned (OpenSpec.ofChange jourCutsWrong)

/-- 'tomelaw11.JourTurned': WHATEVER THE INPUT: true; the input reads as it did. -/
def jourTurnedSpec : ChangeSpec := { name := "jourTurned", fn := fun _ => fun
  | [d1, d2, d3] => { results := [.lit (.bool true)], args := [d1, d2, d3] }
  | _ => none }
def jourTurnedRow : OpenClaim := { program := "ytlehpgokjppccaa", sum := "e9abff4dcb40f8b7a9675bca63fc25d2515e7688cd23e8c773fe451e9c38f378", func := "tome/tomelaw11.JourTurned", spec := "jourTurned", inPlace := ["internal/bytealg.MakeNoZero"], apart := false }
def JourTurnedSaid : Prop := jourTurnedRow.holds Try.pinned (OpenSpec.ofChange jourTurnedSpec)

/-- ITS FALSE NEIGHBOUR: 'it returns false'. Refute it at one input. -/
def jourTurnedWrong : ChangeSpec := { name := "jourTurned", fn := fun _ => fun
  | [d1, d2, d3] => { results := [.lit (.bool false)], args := [d1, d2, d3] }
  | _ => none }
def JourTurnedWrongFalsely : Prop := jourTurnedRow.holds Try.pinned (OpenSpec.ofChange jourTurnedWrong)

/-- 'tomelaw11.JourOther': WHATEVER THE INPUT: true; the input reads as it did. -/
def jourOtherSpec : ChangeSpec := { name := "jourOther", fn := fun _ => fun
  | [d1, d2, d3] => { results := [.lit (.bool true)], args := [d1, d2, d3] }
  | _ => none }
def jourOtherRow : OpenClaim := { program := "ytlehpgokjppccaa", sum := "e9abff4dcb40f8b7a9675bca63fc25d2515e7688cd23e8c773fe451e9c38f378", func := "tome/tomelaw11.JourOther", spec := "jourOther", inPlace := ["internal/bytealg.MakeNoZero"], apart := false }
def JourOtherSaid : Prop := jourOtherRow.holds Try.pinned (OpenSpec.ofChange jourOtherSpec)

/-- ITS FALSE NEIGHBOUR: 'it returns false'. Refute it at one input. -/
def jourOtherWrong : ChangeSpec := { name := "jourOther", fn := fun _ => fun
  | [d1, d2, d3] => { results := [.lit (.bool false)], args := [d1, d2, d3] }
  | _ => none }
def JourOtherWrongFalsely : Prop := jourOtherRow.holds Try.pinned (OpenSpec.ofChange jourOtherWrong)

/-- 'tometop.TopFrames': WHATEVER THE INPUT: true; the input reads as it did. -/
def topFramesSpec : ChangeSpec := { name := "topFrames", fn := fun _ => fun
  | [d1, d2, d3, d4] => { results := [.lit (.bool true)], args := [d1, d2, d3, d4] }
  | _ => none }
def topFramesRow : OpenClaim := { program := "ytlehpgokjppccaa", sum := "e9abff4dcb40f8b7a9675bca63fc25d2515e7688cd23e8c773fe451e9c38f378", func := "tome/tometop.TopFrames", spec := "topFrames", inPlace := ["internal/bytealg.MakeNoZero"], unfollowed := true, recurses := true, apart := false }
def TopFramesSaid : Prop := topFramesRow.holds Try.pinned (OpenSpec.ofChange topFramesSpec)

/-- ITS FALSE NEIGHBOUR: 'it returns false'. Refute it at one input. -/
def topFramesWrong : ChangeSpec := { name := "topFrames", fn := fun _ => fun
  | [d1, d2, d3, d4] => { results := [.lit (.bool false)], args := [d1, d2, d3, d4] }
  | _ => none }
def TopFramesWrongFalsely : Prop := topFramesRow.holds Try.pinned (OpenSpec.ofChange topFramesWrong)

/- THE SECOND FORM. 'bulk': how many values and letters a reading holds, each counted each time it is reached (what is shared counts as often as it is met; a slice's spare places count too). A statement '..UptoSaid' is the law's where the arguments, and the package variables that the reading takes, are together of bulk at most 1048576: NARROWER than '..Said'. Prove '..Said' where nothing that the law and all that it calls make is longer than what came in: it says more and counts as full. Else prove '..UptoSaid'. A law counts once. -/
mutual
def uptoBulk {H : Type} : DataW H → Nat
  | .lit (.string bytes) => bytes.length + 1
  | .lit _ => 1
  | .nil => 1
  | .ptr d => uptoBulk d + 1
  | .slice elems spare => uptoBulkAll elems + uptoBulkAll spare + 1
  | .agg parts => uptoBulkAll parts + 1
  | .iface _ d => uptoBulk d + 1
  | .map entries => uptoBulkEntries entries + 1
  | .held _ => 1
def uptoBulkAll {H : Type} : List (DataW H) → Nat
  | [] => 0
  | d :: r => uptoBulk d + uptoBulkAll r
def uptoBulkEntries {H : Type} : List (Lit × DataW H) → Nat
  | [] => 0
  | x :: r => uptoBulkEntry x + uptoBulkEntries r
def uptoBulkEntry {H : Type} : Lit × DataW H → Nat
  | (.string bytes, d) => bytes.length + uptoBulk d + 1
  | (_, d) => uptoBulk d + 1
 end
def uptoSmall : (H : Type) → List (DataW H) → Bool := fun _ ds => decide (uptoBulkAll ds ≤ 1048576)
def OpenSpec.upto (s : _root_.Go.ChangeSpec) : _root_.Go.OpenSpec := { _root_.Go.OpenSpec.ofChange s with cond := some uptoSmall }

/-- 'tomelaw08.HeaderEncodes', WHERE WHAT IT READS IS OF BULK AT MOST 1048576: true; the input reads as it did. -/
def headerEncodesUptoRow : OpenClaim := { program := "ytlehpgokjppccaa", sum := "e9abff4dcb40f8b7a9675bca63fc25d2515e7688cd23e8c773fe451e9c38f378", func := "tome/tomelaw08.HeaderEncodes", spec := "headerEncodes", unfollowed := true, recurses := true, apart := false, narrowed := true }
def HeaderEncodesUptoSaid : Prop := headerEncodesUptoRow.holds Try.pinned (OpenSpec.upto headerEncodesSpec)

/-- 'tomelaw08.HeaderDecodes', WHERE WHAT IT READS IS OF BULK AT MOST 1048576: true; the input reads as it did. -/
def headerDecodesUptoRow : OpenClaim := { program := "ytlehpgokjppccaa", sum := "e9abff4dcb40f8b7a9675bca63fc25d2515e7688cd23e8c773fe451e9c38f378", func := "tome/tomelaw08.HeaderDecodes", spec := "headerDecodes", unfollowed := true, recurses := true, apart := false, narrowed := true }
def HeaderDecodesUptoSaid : Prop := headerDecodesUptoRow.holds Try.pinned (OpenSpec.upto headerDecodesSpec)

/-- 'tomelaw08.HeaderTurned', WHERE WHAT IT READS IS OF BULK AT MOST 1048576: true; the input reads as it did. -/
def headerTurnedUptoRow : OpenClaim := { program := "ytlehpgokjppccaa", sum := "e9abff4dcb40f8b7a9675bca63fc25d2515e7688cd23e8c773fe451e9c38f378", func := "tome/tomelaw08.HeaderTurned", spec := "headerTurned", unfollowed := true, recurses := true, apart := false, narrowed := true }
def HeaderTurnedUptoSaid : Prop := headerTurnedUptoRow.holds Try.pinned (OpenSpec.upto headerTurnedSpec)

/-- 'tomelaw11.JourScans', WHERE WHAT IT READS IS OF BULK AT MOST 1048576: true; the input reads as it did. -/
def jourScansUptoRow : OpenClaim := { program := "ytlehpgokjppccaa", sum := "e9abff4dcb40f8b7a9675bca63fc25d2515e7688cd23e8c773fe451e9c38f378", func := "tome/tomelaw11.JourScans", spec := "jourScans", inPlace := ["internal/bytealg.MakeNoZero"], apart := false, narrowed := true }
def JourScansUptoSaid : Prop := jourScansUptoRow.holds Try.pinned (OpenSpec.upto jourScansSpec)

/-- 'tomelaw11.JourWrites', WHERE WHAT IT READS IS OF BULK AT MOST 1048576: true; the input reads as it did. -/
def jourWritesUptoRow : OpenClaim := { program := "ytlehpgokjppccaa", sum := "e9abff4dcb40f8b7a9675bca63fc25d2515e7688cd23e8c773fe451e9c38f378", func := "tome/tomelaw11.JourWrites", spec := "jourWrites", inPlace := ["internal/bytealg.MakeNoZero"], apart := false, narrowed := true }
def JourWritesUptoSaid : Prop := jourWritesUptoRow.holds Try.pinned (OpenSpec.upto jourWritesSpec)

/-- 'tomelaw11.JourCuts', WHERE WHAT IT READS IS OF BULK AT MOST 1048576: true; the input reads as it did. -/
def jourCutsUptoRow : OpenClaim := { program := "ytlehpgokjppccaa", sum := "e9abff4dcb40f8b7a9675bca63fc25d2515e7688cd23e8c773fe451e9c38f378", func := "tome/tomelaw11.JourCuts", spec := "jourCuts", inPlace := ["internal/bytealg.MakeNoZero"], apart := false, narrowed := true }
def JourCutsUptoSaid : Prop := jourCutsUptoRow.holds Try.pinned (OpenSpec.upto jourCutsSpec)

/-- 'tomelaw11.JourTurned', WHERE WHAT IT READS IS OF BULK AT MOST 1048576: true; the input reads as it did. -/
def jourTurnedUptoRow : OpenClaim := { program := "ytlehpgokjppccaa", sum := "e9abff4dcb40f8b7a9675bca63fc25d2515e7688cd23e8c773fe451e9c38f378", func := "tome/tomelaw11.JourTurned", spec := "jourTurned", inPlace := ["internal/bytealg.MakeNoZero"], apart := false, narrowed := true }
def JourTurnedUptoSaid : Prop := jourTurnedUptoRow.holds Try.pinned (OpenSpec.upto jourTurnedSpec)

/-- 'tomelaw11.JourOther', WHERE WHAT IT READS IS OF BULK AT MOST 1048576: true; the input reads as it did. -/
def jourOtherUptoRow : OpenClaim := { program := "ytlehpgokjppccaa", sum := "e9abff4dcb40f8b7a9675bca63fc25d2515e7688cd23e8c773fe451e9c38f378", func := "tome/tomelaw11.JourOther", spec := "jourOther", inPlace := ["internal/bytealg.MakeNoZero"], apart := false, narrowed := true }
def JourOtherUptoSaid : Prop := jourOtherUptoRow.holds Try.pinned (OpenSpec.upto jourOtherSpec)

/-- 'tometop.TopFrames', WHERE WHAT IT READS IS OF BULK AT MOST 1048576: true; the input reads as it did. -/
def topFramesUptoRow : OpenClaim := { program := "ytlehpgokjppccaa", sum := "e9abff4dcb40f8b7a9675bca63fc25d2515e7688cd23e8c773fe451e9c38f378", func := "tome/tometop.TopFrames", spec := "topFrames", inPlace := ["internal/bytealg.MakeNoZero"], unfollowed := true, recurses := true, apart := false, narrowed := true }
def TopFramesUptoSaid : Prop := topFramesUptoRow.holds Try.pinned (OpenSpec.upto topFramesSpec)

end Rows
end Go.Proofs.Ytlehpgokjppccaa
