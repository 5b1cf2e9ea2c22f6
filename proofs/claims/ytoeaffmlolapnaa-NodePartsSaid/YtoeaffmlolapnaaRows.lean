/-
  No cell of these rows narrows 'for every input' (looked for: loops, veiled, ifaces, maps, wideKeys, modest, calm, conditions, laid).
  DERIVED. THE GIVEN ROWS OF THIS SEAT. 12 by the template 'for every input the law returns true; each argument reads behind the call as it read before'; 0 by the template 'total and deterministic' (their statements: YtoeaffmlolapnaaTotals.lean).
  GIVEN WITH THE SEED: the statements are not yours to turn. If you find one false, say at which input.
  Laid BY PROGRAM, IN A SANDBOX (cutbox-rows.mjs): the forced cells as the released guide's own fill.sh prints them over the translation e73cca1223bff017… (all of the seat's roots in one cut). By AI agents, Wed Nov 11 2026. No macro, syntax, notation, axiom, sorry.
-/
import Derived.Test.YtoeaffmlolapnaaChecked
import GoSem.Claim
import GoSem.ClaimJoined
import GoSem.ClaimMapViews
import Derived.JoinedTies
import Derived.KernelRfl
namespace Go.Proofs.Ytoeaffmlolapnaa
/- THE CELL 'sum', in the pinned program and in every row, IS THE sha256 OF THE DUMP (.gsa) THAT YtoeaffmlolapnaaProg.lean LOADS. Nothing in Lean hashes anything: it is a label: what it is worth is what the hold of that sum in a sandbox is worth. -/
noncomputable def Try.pinned : Pinned := { name := "ytoeaffmlolapnaa", sum := "e73cca1223bff017d3f1f7543a6be9ab3ebf1fe7040d8a87499c880eba0b7e2d", checked := Try.checked }
namespace Rows
def none {H : Type} : Left H := { results := [], args := [] }

/-- 'tomelaw09.SlotsPlays': WHATEVER THE INPUT: true; the input reads as it did. -/
def slotsPlaysSpec : ChangeSpec := { name := "slotsPlays", fn := fun _ => fun
  | [d1, d2, d3] => { results := [.lit (.bool true)], args := [d1, d2, d3] }
  | _ => none }
def slotsPlaysRow : OpenClaim := { program := "ytoeaffmlolapnaa", sum := "e73cca1223bff017d3f1f7543a6be9ab3ebf1fe7040d8a87499c880eba0b7e2d", func := "tome/tomelaw09.SlotsPlays", spec := "slotsPlays", apart := false }
def SlotsPlaysSaid : Prop := slotsPlaysRow.holds Try.pinned (OpenSpec.ofChange slotsPlaysSpec)

/-- ITS FALSE NEIGHBOUR: 'it returns false'. Refute it at one input. -/
def slotsPlaysWrong : ChangeSpec := { name := "slotsPlays", fn := fun _ => fun
  | [d1, d2, d3] => { results := [.lit (.bool false)], args := [d1, d2, d3] }
  | _ => none }
def SlotsPlaysWrongFalsely : Prop := slotsPlaysRow.holds Try.pinned (OpenSpec.ofChange slotsPlaysWrong)

/-- 'tomelaw09.SlotsReads': WHATEVER THE INPUT: true; the input reads as it did. -/
def slotsReadsSpec : ChangeSpec := { name := "slotsReads", fn := fun _ => fun
  | [d1, d2, d3] => { results := [.lit (.bool true)], args := [d1, d2, d3] }
  | _ => none }
def slotsReadsRow : OpenClaim := { program := "ytoeaffmlolapnaa", sum := "e73cca1223bff017d3f1f7543a6be9ab3ebf1fe7040d8a87499c880eba0b7e2d", func := "tome/tomelaw09.SlotsReads", spec := "slotsReads", apart := false }
def SlotsReadsSaid : Prop := slotsReadsRow.holds Try.pinned (OpenSpec.ofChange slotsReadsSpec)

/-- ITS FALSE NEIGHBOUR: 'it returns false'. Refute it at one input. -/
def slotsReadsWrong : ChangeSpec := { name := "slotsReads", fn := fun _ => fun
  | [d1, d2, d3] => { results := [.lit (.bool false)], args := [d1, d2, d3] }
  | _ => none }
def SlotsReadsWrongFalsely : Prop := slotsReadsRow.holds Try.pinned (OpenSpec.ofChange slotsReadsWrong)

/-- 'tomelaw09.SlotsBack': WHATEVER THE INPUT: true; the input reads as it did. -/
def slotsBackSpec : ChangeSpec := { name := "slotsBack", fn := fun _ => fun
  | [d1, d2, d3, d4] => { results := [.lit (.bool true)], args := [d1, d2, d3, d4] }
  | _ => none }
def slotsBackRow : OpenClaim := { program := "ytoeaffmlolapnaa", sum := "e73cca1223bff017d3f1f7543a6be9ab3ebf1fe7040d8a87499c880eba0b7e2d", func := "tome/tomelaw09.SlotsBack", spec := "slotsBack", apart := false }
def SlotsBackSaid : Prop := slotsBackRow.holds Try.pinned (OpenSpec.ofChange slotsBackSpec)

/-- ITS FALSE NEIGHBOUR: 'it returns false'. Refute it at one input. -/
def slotsBackWrong : ChangeSpec := { name := "slotsBack", fn := fun _ => fun
  | [d1, d2, d3, d4] => { results := [.lit (.bool false)], args := [d1, d2, d3, d4] }
  | _ => none }
def SlotsBackWrongFalsely : Prop := slotsBackRow.holds Try.pinned (OpenSpec.ofChange slotsBackWrong)

/-- 'tomelaw09.SlotsPacks': WHATEVER THE INPUT: true; the input reads as it did. -/
def slotsPacksSpec : ChangeSpec := { name := "slotsPacks", fn := fun _ => fun
  | [d1, d2, d3] => { results := [.lit (.bool true)], args := [d1, d2, d3] }
  | _ => none }
def slotsPacksRow : OpenClaim := { program := "ytoeaffmlolapnaa", sum := "e73cca1223bff017d3f1f7543a6be9ab3ebf1fe7040d8a87499c880eba0b7e2d", func := "tome/tomelaw09.SlotsPacks", spec := "slotsPacks", apart := false }
def SlotsPacksSaid : Prop := slotsPacksRow.holds Try.pinned (OpenSpec.ofChange slotsPacksSpec)

/-- ITS FALSE NEIGHBOUR: 'it returns false'. Refute it at one input. -/
def slotsPacksWrong : ChangeSpec := { name := "slotsPacks", fn := fun _ => fun
  | [d1, d2, d3] => { results := [.lit (.bool false)], args := [d1, d2, d3] }
  | _ => none }
def SlotsPacksWrongFalsely : Prop := slotsPacksRow.holds Try.pinned (OpenSpec.ofChange slotsPacksWrong)

/-- 'tomelaw09.SlotsNobody': WHATEVER THE INPUT: true; the input reads as it did. -/
def slotsNobodySpec : ChangeSpec := { name := "slotsNobody", fn := fun _ => fun
  | [d1, d2] => { results := [.lit (.bool true)], args := [d1, d2] }
  | _ => none }
def slotsNobodyRow : OpenClaim := { program := "ytoeaffmlolapnaa", sum := "e73cca1223bff017d3f1f7543a6be9ab3ebf1fe7040d8a87499c880eba0b7e2d", func := "tome/tomelaw09.SlotsNobody", spec := "slotsNobody", apart := false }
def SlotsNobodySaid : Prop := slotsNobodyRow.holds Try.pinned (OpenSpec.ofChange slotsNobodySpec)

/-- ITS FALSE NEIGHBOUR: 'it returns false'. Refute it at one input. -/
def slotsNobodyWrong : ChangeSpec := { name := "slotsNobody", fn := fun _ => fun
  | [d1, d2] => { results := [.lit (.bool false)], args := [d1, d2] }
  | _ => none }
def SlotsNobodyWrongFalsely : Prop := slotsNobodyRow.holds Try.pinned (OpenSpec.ofChange slotsNobodyWrong)

/-- 'tomelaw18.CellDecodes': WHATEVER THE INPUT: true; the input reads as it did. -/
def cellDecodesSpec : ChangeSpec := { name := "cellDecodes", fn := fun _ => fun
  | [d1, d2] => { results := [.lit (.bool true)], args := [d1, d2] }
  | _ => none }
def cellDecodesRow : OpenClaim := { program := "ytoeaffmlolapnaa", sum := "e73cca1223bff017d3f1f7543a6be9ab3ebf1fe7040d8a87499c880eba0b7e2d", func := "tome/tomelaw18.CellDecodes", spec := "cellDecodes", inPlace := ["internal/bytealg.MakeNoZero"], apart := false }
def CellDecodesSaid : Prop := cellDecodesRow.holds Try.pinned (OpenSpec.ofChange cellDecodesSpec)

/-- ITS FALSE NEIGHBOUR: 'it returns false'. Refute it at one input. -/
def cellDecodesWrong : ChangeSpec := { name := "cellDecodes", fn := fun _ => fun
  | [d1, d2] => { results := [.lit (.bool false)], args := [d1, d2] }
  | _ => none }
def CellDecodesWrongFalsely : Prop := cellDecodesRow.holds Try.pinned (OpenSpec.ofChange cellDecodesWrong)

/-- 'tomelaw18.CellOwn': WHATEVER THE INPUT: true; the input reads as it did. -/
def cellOwnSpec : ChangeSpec := { name := "cellOwn", fn := fun _ => fun
  | [d1, d2] => { results := [.lit (.bool true)], args := [d1, d2] }
  | _ => none }
def cellOwnRow : OpenClaim := { program := "ytoeaffmlolapnaa", sum := "e73cca1223bff017d3f1f7543a6be9ab3ebf1fe7040d8a87499c880eba0b7e2d", func := "tome/tomelaw18.CellOwn", spec := "cellOwn", inPlace := ["internal/bytealg.MakeNoZero"], apart := false }
def CellOwnSaid : Prop := cellOwnRow.holds Try.pinned (OpenSpec.ofChange cellOwnSpec)

/-- ITS FALSE NEIGHBOUR: 'it returns false'. Refute it at one input. -/
def cellOwnWrong : ChangeSpec := { name := "cellOwn", fn := fun _ => fun
  | [d1, d2] => { results := [.lit (.bool false)], args := [d1, d2] }
  | _ => none }
def CellOwnWrongFalsely : Prop := cellOwnRow.holds Try.pinned (OpenSpec.ofChange cellOwnWrong)

/-- 'tomelaw18.CellEncodes': WHATEVER THE INPUT: true; the input reads as it did. -/
def cellEncodesSpec : ChangeSpec := { name := "cellEncodes", fn := fun _ => fun
  | [d1, d2] => { results := [.lit (.bool true)], args := [d1, d2] }
  | _ => none }
def cellEncodesRow : OpenClaim := { program := "ytoeaffmlolapnaa", sum := "e73cca1223bff017d3f1f7543a6be9ab3ebf1fe7040d8a87499c880eba0b7e2d", func := "tome/tomelaw18.CellEncodes", spec := "cellEncodes", inPlace := ["internal/bytealg.MakeNoZero"], apart := false }
def CellEncodesSaid : Prop := cellEncodesRow.holds Try.pinned (OpenSpec.ofChange cellEncodesSpec)

/-- ITS FALSE NEIGHBOUR: 'it returns false'. Refute it at one input. -/
def cellEncodesWrong : ChangeSpec := { name := "cellEncodes", fn := fun _ => fun
  | [d1, d2] => { results := [.lit (.bool false)], args := [d1, d2] }
  | _ => none }
def CellEncodesWrongFalsely : Prop := cellEncodesRow.holds Try.pinned (OpenSpec.ofChange cellEncodesWrong)

/-- 'tomelaw19.NodeWrites': WHATEVER THE INPUT: true; the input reads as it did. -/
def nodeWritesSpec : ChangeSpec := { name := "nodeWrites", fn := fun _ => fun
  | [d1, d2] => { results := [.lit (.bool true)], args := [d1, d2] }
  | _ => none }
def nodeWritesRow : OpenClaim := { program := "ytoeaffmlolapnaa", sum := "e73cca1223bff017d3f1f7543a6be9ab3ebf1fe7040d8a87499c880eba0b7e2d", func := "tome/tomelaw19.NodeWrites", spec := "nodeWrites", inPlace := ["internal/bytealg.MakeNoZero"], unfollowed := true, recurses := true, apart := false }
def NodeWritesSaid : Prop := nodeWritesRow.holds Try.pinned (OpenSpec.ofChange nodeWritesSpec)

/-- ITS FALSE NEIGHBOUR: 'it returns false'. Refute it at one input. -/
def nodeWritesWrong : ChangeSpec := { name := "nodeWrites", fn := fun _ => fun
  | [d1, d2] => { results := [.lit (.bool false)], args := [d1, d2] }
  | _ => none }
def NodeWritesWrongFalsely : Prop := nodeWritesRow.holds Try.pinned (OpenSpec.ofChange nodeWritesWrong)

/-- 'tomelaw19.NodeReads': WHATEVER THE INPUT: true; the input reads as it did. -/
def nodeReadsSpec : ChangeSpec := { name := "nodeReads", fn := fun _ => fun
  | [d] => { results := [.lit (.bool true)], args := [d] }
  | _ => none }
def nodeReadsRow : OpenClaim := { program := "ytoeaffmlolapnaa", sum := "e73cca1223bff017d3f1f7543a6be9ab3ebf1fe7040d8a87499c880eba0b7e2d", func := "tome/tomelaw19.NodeReads", spec := "nodeReads", inPlace := ["internal/bytealg.MakeNoZero"], unfollowed := true, recurses := true, apart := false }
def NodeReadsSaid : Prop := nodeReadsRow.holds Try.pinned (OpenSpec.ofChange nodeReadsSpec)

/-- ITS FALSE NEIGHBOUR: 'it returns false'. Refute it at one input. -/
def nodeReadsWrong : ChangeSpec := { name := "nodeReads", fn := fun _ => fun
  | [d] => { results := [.lit (.bool false)], args := [d] }
  | _ => none }
def NodeReadsWrongFalsely : Prop := nodeReadsRow.holds Try.pinned (OpenSpec.ofChange nodeReadsWrong)

/-- 'tomelaw19.NodeJoins': WHATEVER THE INPUT: true; the input reads as it did. -/
def nodeJoinsSpec : ChangeSpec := { name := "nodeJoins", fn := fun _ => fun
  | [d1, d2, d3] => { results := [.lit (.bool true)], args := [d1, d2, d3] }
  | _ => none }
def nodeJoinsRow : OpenClaim := { program := "ytoeaffmlolapnaa", sum := "e73cca1223bff017d3f1f7543a6be9ab3ebf1fe7040d8a87499c880eba0b7e2d", func := "tome/tomelaw19.NodeJoins", spec := "nodeJoins", inPlace := ["internal/bytealg.MakeNoZero"], unfollowed := true, recurses := true, apart := false }
def NodeJoinsSaid : Prop := nodeJoinsRow.holds Try.pinned (OpenSpec.ofChange nodeJoinsSpec)

/-- ITS FALSE NEIGHBOUR: 'it returns false'. Refute it at one input. -/
def nodeJoinsWrong : ChangeSpec := { name := "nodeJoins", fn := fun _ => fun
  | [d1, d2, d3] => { results := [.lit (.bool false)], args := [d1, d2, d3] }
  | _ => none }
def NodeJoinsWrongFalsely : Prop := nodeJoinsRow.holds Try.pinned (OpenSpec.ofChange nodeJoinsWrong)

/-- 'tomelaw19.NodeParts': WHATEVER THE INPUT: true; the input reads as it did. -/
def nodePartsSpec : ChangeSpec := { name := "nodeParts", fn := fun _ => fun
  | [d1, d2] => { results := [.lit (.bool true)], args := [d1, d2] }
  | _ => none }
def nodePartsRow : OpenClaim := { program := "ytoeaffmlolapnaa", sum := "e73cca1223bff017d3f1f7543a6be9ab3ebf1fe7040d8a87499c880eba0b7e2d", func := "tome/tomelaw19.NodeParts", spec := "nodeParts", inPlace := ["internal/bytealg.MakeNoZero"], unfollowed := true, recurses := true, apart := false }
def NodePartsSaid : Prop := nodePartsRow.holds Try.pinned (OpenSpec.ofChange nodePartsSpec)

/-- ITS FALSE NEIGHBOUR: 'it returns false'. Refute it at one input. -/
def nodePartsWrong : ChangeSpec := { name := "nodeParts", fn := fun _ => fun
  | [d1, d2] => { results := [.lit (.bool false)], args := [d1, d2] }
  | _ => none }
def NodePartsWrongFalsely : Prop := nodePartsRow.holds Try.pinned (OpenSpec.ofChange nodePartsWrong)

/- THE SECOND FORM. 'bulk': how many values and letters a reading holds, each counted each time it is reached (what is shared counts as often as it is met; a slice's spare places count too). A statement '..UptoSaid' is the law's where the arguments, and the package variables that the reading takes, are together of bulk at most 1048576: NARROWER than '..Said'. Prove '..Said' where nothing that the law and all that it calls make is longer than what came in: it says more and counts as full. Else prove '..UptoSaid'. A law counts once. -/
mutual
def uptoBulk {H : Type} : DataW H → Nat
  | .lit (.string bytes) => bytes.length + 1
  | .lit _ => 1
  | .nil => 1
  | .ptr d => uptoBulk d + 1
  | .slice elems spare => uptoBulkAll elems + uptoBulkAll spare + 1
  | .agg parts => uptoBulkAll parts + 1
  | .iface _ d => uptoBulk d + 1
  | .map entries => uptoBulkEntries entries + 1
  | .held _ => 1
def uptoBulkAll {H : Type} : List (DataW H) → Nat
  | [] => 0
  | d :: r => uptoBulk d + uptoBulkAll r
def uptoBulkEntries {H : Type} : List (Lit × DataW H) → Nat
  | [] => 0
  | x :: r => uptoBulkEntry x + uptoBulkEntries r
def uptoBulkEntry {H : Type} : Lit × DataW H → Nat
  | (.string bytes, d) => bytes.length + uptoBulk d + 1
  | (_, d) => uptoBulk d + 1
 end
def uptoSmall : (H : Type) → List (DataW H) → Bool := fun _ ds => decide (uptoBulkAll ds ≤ 1048576)
def OpenSpec.upto (s : _root_.Go.ChangeSpec) : _root_.Go.OpenSpec := { _root_.Go.OpenSpec.ofChange s with cond := some uptoSmall }

/-- 'tomelaw09.SlotsPlays', WHERE WHAT IT READS IS OF BULK AT MOST 1048576: true; the input reads as it did. -/
def slotsPlaysUptoRow : OpenClaim := { program := "ytoeaffmlolapnaa", sum := "e73cca1223bff017d3f1f7543a6be9ab3ebf1fe7040d8a87499c880eba0b7e2d", func := "tome/tomelaw09.SlotsPlays", spec := "slotsPlays", apart := false, narrowed := true }
def SlotsPlaysUptoSaid : Prop := slotsPlaysUptoRow.holds Try.pinned (OpenSpec.upto slotsPlaysSpec)

/-- 'tomelaw09.SlotsReads', WHERE WHAT IT READS IS OF BULK AT MOST 1048576: true; the input reads as it did. -/
def slotsReadsUptoRow : OpenClaim := { program := "ytoeaffmlolapnaa", sum := "e73cca1223bff017d3f1f7543a6be9ab3ebf1fe7040d8a87499c880eba0b7e2d", func := "tome/tomelaw09.SlotsReads", spec := "slotsReads", apart := false, narrowed := true }
def SlotsReadsUptoSaid : Prop := slotsReadsUptoRow.holds Try.pinned (OpenSpec.upto slotsReadsSpec)

/-- 'tomelaw09.SlotsBack', WHERE WHAT IT READS IS OF BULK AT MOST 1048576: true; the input reads as it did. -/
def slotsBackUptoRow : OpenClaim := { program := "ytoeaffmlolapnaa", sum := "e73cca1223bff017d3f1f7543a6be9ab3ebf1fe7040d8a87499c880eba0b7e2d", func := "tome/tomelaw09.SlotsBack", spec := "slotsBack", apart := false, narrowed := true }
def SlotsBackUptoSaid : Prop := slotsBackUptoRow.holds Try.pinned (OpenSpec.upto slotsBackSpec)

/-- 'tomelaw09.SlotsPacks', WHERE WHAT IT READS IS OF BULK AT MOST 1048576: true; the input reads as it did. -/
def slotsPacksUptoRow : OpenClaim := { program := "ytoeaffmlolapnaa", sum := "e73cca1223bff017d3f1f7543a6be9ab3ebf1fe7040d8a87499c880eba0b7e2d", func := "tome/tomelaw09.SlotsPacks", spec := "slotsPacks", apart := false, narrowed := true }
def SlotsPacksUptoSaid : Prop := slotsPacksUptoRow.holds Try.pinned (OpenSpec.upto slotsPacksSpec)

/-- 'tomelaw09.SlotsNobody', WHERE WHAT IT READS IS OF BULK AT MOST 1048576: true; the input reads as it did. -/
def slotsNobodyUptoRow : OpenClaim := { program := "ytoeaffmlolapnaa", sum := "e73cca1223bff017d3f1f7543a6be9ab3ebf1fe7040d8a87499c880eba0b7e2d", func := "tome/tomelaw09.SlotsNobody", spec := "slotsNobody", apart := false, narrowed := true }
def SlotsNobodyUptoSaid : Prop := slotsNobodyUptoRow.holds Try.pinned (OpenSpec.upto slotsNobodySpec)

/-- 'tomelaw18.CellDecodes', WHERE WHAT IT READS IS OF BULK AT MOST 1048576: true; the input reads as it did. -/
def cellDecodesUptoRow : OpenClaim := { program := "ytoeaffmlolapnaa", sum := "e73cca1223bff017d3f1f7543a6be9ab3ebf1fe7040d8a87499c880eba0b7e2d", func := "tome/tomelaw18.CellDecodes", spec := "cellDecodes", inPlace := ["internal/bytealg.MakeNoZero"], apart := false, narrowed := true }
def CellDecodesUptoSaid : Prop := cellDecodesUptoRow.holds Try.pinned (OpenSpec.upto cellDecodesSpec)

/-- 'tomelaw18.CellOwn', WHERE WHAT IT READS IS OF BULK AT MOST 1048576: true; the input reads as it did. -/
def cellOwnUptoRow : OpenClaim := { program := "ytoeaffmlolapnaa", sum := "e73cca1223bff017d3f1f7543a6be9ab3ebf1fe7040d8a87499c880eba0b7e2d", func := "tome/tomelaw18.CellOwn", spec := "cellOwn", inPlace := ["internal/bytealg.MakeNoZero"], apart := false, narrowed := true }
def CellOwnUptoSaid : Prop := cellOwnUptoRow.holds Try.pinned (OpenSpec.upto cellOwnSpec)

/-- 'tomelaw18.CellEncodes', WHERE WHAT IT READS IS OF BULK AT MOST 1048576: true; the input reads as it did. -/
def cellEncodesUptoRow : OpenClaim := { program := "ytoeaffmlolapnaa", sum := "e73cca1223bff017d3f1f7543a6be9ab3ebf1fe7040d8a87499c880eba0b7e2d", func := "tome/tomelaw18.CellEncodes", spec := "cellEncodes", inPlace := ["internal/bytealg.MakeNoZero"], apart := false, narrowed := true }
def CellEncodesUptoSaid : Prop := cellEncodesUptoRow.holds Try.pinned (OpenSpec.upto cellEncodesSpec)

/-- 'tomelaw19.NodeWrites', WHERE WHAT IT READS IS OF BULK AT MOST 1048576: true; the input reads as it did. -/
def nodeWritesUptoRow : OpenClaim := { program := "ytoeaffmlolapnaa", sum := "e73cca1223bff017d3f1f7543a6be9ab3ebf1fe7040d8a87499c880eba0b7e2d", func := "tome/tomelaw19.NodeWrites", spec := "nodeWrites", inPlace := ["internal/bytealg.MakeNoZero"], unfollowed := true, recurses := true, apart := false, narrowed := true }
def NodeWritesUptoSaid : Prop := nodeWritesUptoRow.holds Try.pinned (OpenSpec.upto nodeWritesSpec)

/-- 'tomelaw19.NodeReads', WHERE WHAT IT READS IS OF BULK AT MOST 1048576: true; the input reads as it did. -/
def nodeReadsUptoRow : OpenClaim := { program := "ytoeaffmlolapnaa", sum := "e73cca1223bff017d3f1f7543a6be9ab3ebf1fe7040d8a87499c880eba0b7e2d", func := "tome/tomelaw19.NodeReads", spec := "nodeReads", inPlace := ["internal/bytealg.MakeNoZero"], unfollowed := true, recurses := true, apart := false, narrowed := true }
def NodeReadsUptoSaid : Prop := nodeReadsUptoRow.holds Try.pinned (OpenSpec.upto nodeReadsSpec)

/-- 'tomelaw19.NodeJoins', WHERE WHAT IT READS IS OF BULK AT MOST 1048576: true; the input reads as it did. -/
def nodeJoinsUptoRow : OpenClaim := { program := "ytoeaffmlolapnaa", sum := "e73cca1223bff017d3f1f7543a6be9ab3ebf1fe7040d8a87499c880eba0b7e2d", func := "tome/tomelaw19.NodeJoins", spec := "nodeJoins", inPlace := ["internal/bytealg.MakeNoZero"], unfollowed := true, recurses := true, apart := false, narrowed := true }
def NodeJoinsUptoSaid : Prop := nodeJoinsUptoRow.holds Try.pinned (OpenSpec.upto nodeJoinsSpec)

/-- 'tomelaw19.NodeParts', WHERE WHAT IT READS IS OF BULK AT MOST 1048576: true; the input reads as it did. -/
def nodePartsUptoRow : OpenClaim := { program := "ytoeaffmlolapnaa", sum := "e73cca1223bff017d3f1f7543a6be9ab3ebf1fe7040d8a87499c880eba0b7e2d", func := "tome/tomelaw19.NodeParts", spec := "nodeParts", inPlace := ["internal/bytealg.MakeNoZero"], unfollowed := true, recurses := true, apart := false, narrowed := true }
def NodePartsUptoSaid : Prop := nodePartsUptoRow.holds Try.pinned (OpenSpec.upto nodePartsSpec)

end Rows
end Go.Proofs.Ytoeaffmlolapnaa
