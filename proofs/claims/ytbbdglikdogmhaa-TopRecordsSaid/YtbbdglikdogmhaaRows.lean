/-
  No cell of these rows narrows 'for every input' (looked for: loops, veiled, ifaces, maps, wideKeys, modest, calm, conditions, laid).
  DERIVED. THE GIVEN ROWS OF THIS SEAT. 6 by the template 'for every input the law returns true; each argument reads behind the call as it read before'; 0 by the template 'total and deterministic' (their statements: YtbbdglikdogmhaaTotals.lean).
  GIVEN WITH THE SEED: the statements are not yours to turn. If you find one false, say at which input.
  Laid BY PROGRAM, IN A SANDBOX (cutbox-rows.mjs): the forced cells as the released guide's own fill.sh prints them over the translation 54049882e2a91c9e… (all of the seat's roots in one cut). By AI agents, Wed Nov 11 2026. No macro, syntax, notation, axiom, sorry.
-/
import Derived.Test.YtbbdglikdogmhaaChecked
import GoSem.Claim
import GoSem.ClaimJoined
import GoSem.ClaimMapViews
import Derived.JoinedTies
import Derived.KernelRfl
namespace Go.Proofs.Ytbbdglikdogmhaa
/- THE CELL 'sum', in the pinned program and in every row, IS THE sha256 OF THE DUMP (.gsa) THAT YtbbdglikdogmhaaProg.lean LOADS. Nothing in Lean hashes anything: it is a label: what it is worth is what the hold of that sum in a sandbox is worth. -/
noncomputable def Try.pinned : Pinned := { name := "ytbbdglikdogmhaa", sum := "54049882e2a91c9ea95afd0522df1f49f1f3fc1c81217431310d096abdc1aa9b", checked := Try.checked }
namespace Rows
def none {H : Type} : Left H := { results := [], args := [] }

/-- 'tomelaw05.RecordEncodes': WHATEVER THE INPUT: true; the input reads as it did. -/
def recordEncodesSpec : ChangeSpec := { name := "recordEncodes", fn := fun _ => fun
  | [d] => { results := [.lit (.bool true)], args := [d] }
  | _ => none }
def recordEncodesRow : OpenClaim := { program := "ytbbdglikdogmhaa", sum := "54049882e2a91c9ea95afd0522df1f49f1f3fc1c81217431310d096abdc1aa9b", func := "tome/tomelaw05.RecordEncodes", spec := "recordEncodes", apart := false }
def RecordEncodesSaid : Prop := recordEncodesRow.holds Try.pinned (OpenSpec.ofChange recordEncodesSpec)

/-- ITS FALSE NEIGHBOUR: 'it returns false'. Refute it at one input. -/
def recordEncodesWrong : ChangeSpec := { name := "recordEncodes", fn := fun _ => fun
  | [d] => { results := [.lit (.bool false)], args := [d] }
  | _ => none }
def RecordEncodesWrongFalsely : Prop := recordEncodesRow.holds Try.pinned (OpenSpec.ofChange recordEncodesWrong)

/-- 'tomelaw05.RecordDecodes': WHATEVER THE INPUT: true; the input reads as it did. -/
def recordDecodesSpec : ChangeSpec := { name := "recordDecodes", fn := fun _ => fun
  | [d] => { results := [.lit (.bool true)], args := [d] }
  | _ => none }
def recordDecodesRow : OpenClaim := { program := "ytbbdglikdogmhaa", sum := "54049882e2a91c9ea95afd0522df1f49f1f3fc1c81217431310d096abdc1aa9b", func := "tome/tomelaw05.RecordDecodes", spec := "recordDecodes", apart := false }
def RecordDecodesSaid : Prop := recordDecodesRow.holds Try.pinned (OpenSpec.ofChange recordDecodesSpec)

/-- ITS FALSE NEIGHBOUR: 'it returns false'. Refute it at one input. -/
def recordDecodesWrong : ChangeSpec := { name := "recordDecodes", fn := fun _ => fun
  | [d] => { results := [.lit (.bool false)], args := [d] }
  | _ => none }
def RecordDecodesWrongFalsely : Prop := recordDecodesRow.holds Try.pinned (OpenSpec.ofChange recordDecodesWrong)

/-- 'tomelaw05.RecordApart': WHATEVER THE INPUT: true; the input reads as it did. -/
def recordApartSpec : ChangeSpec := { name := "recordApart", fn := fun _ => fun
  | [d1, d2] => { results := [.lit (.bool true)], args := [d1, d2] }
  | _ => none }
def recordApartRow : OpenClaim := { program := "ytbbdglikdogmhaa", sum := "54049882e2a91c9ea95afd0522df1f49f1f3fc1c81217431310d096abdc1aa9b", func := "tome/tomelaw05.RecordApart", spec := "recordApart", apart := false }
def RecordApartSaid : Prop := recordApartRow.holds Try.pinned (OpenSpec.ofChange recordApartSpec)

/-- ITS FALSE NEIGHBOUR: 'it returns false'. Refute it at one input. -/
def recordApartWrong : ChangeSpec := { name := "recordApart", fn := fun _ => fun
  | [d1, d2] => { results := [.lit (.bool false)], args := [d1, d2] }
  | _ => none }
def RecordApartWrongFalsely : Prop := recordApartRow.holds Try.pinned (OpenSpec.ofChange recordApartWrong)

/-- 'tomelaw05.RecordFirsts': WHATEVER THE INPUT: true; the input reads as it did. -/
def recordFirstsSpec : ChangeSpec := { name := "recordFirsts", fn := fun _ => fun
  | [d1, d2] => { results := [.lit (.bool true)], args := [d1, d2] }
  | _ => none }
def recordFirstsRow : OpenClaim := { program := "ytbbdglikdogmhaa", sum := "54049882e2a91c9ea95afd0522df1f49f1f3fc1c81217431310d096abdc1aa9b", func := "tome/tomelaw05.RecordFirsts", spec := "recordFirsts", apart := false }
def RecordFirstsSaid : Prop := recordFirstsRow.holds Try.pinned (OpenSpec.ofChange recordFirstsSpec)

/-- ITS FALSE NEIGHBOUR: 'it returns false'. Refute it at one input. -/
def recordFirstsWrong : ChangeSpec := { name := "recordFirsts", fn := fun _ => fun
  | [d1, d2] => { results := [.lit (.bool false)], args := [d1, d2] }
  | _ => none }
def RecordFirstsWrongFalsely : Prop := recordFirstsRow.holds Try.pinned (OpenSpec.ofChange recordFirstsWrong)

/-- 'tomelaw05.RecordBegins': WHATEVER THE INPUT: true; the input reads as it did. -/
def recordBeginsSpec : ChangeSpec := { name := "recordBegins", fn := fun _ => fun
  | [d1, d2] => { results := [.lit (.bool true)], args := [d1, d2] }
  | _ => none }
def recordBeginsRow : OpenClaim := { program := "ytbbdglikdogmhaa", sum := "54049882e2a91c9ea95afd0522df1f49f1f3fc1c81217431310d096abdc1aa9b", func := "tome/tomelaw05.RecordBegins", spec := "recordBegins", apart := false }
def RecordBeginsSaid : Prop := recordBeginsRow.holds Try.pinned (OpenSpec.ofChange recordBeginsSpec)

/-- ITS FALSE NEIGHBOUR: 'it returns false'. Refute it at one input. -/
def recordBeginsWrong : ChangeSpec := { name := "recordBegins", fn := fun _ => fun
  | [d1, d2] => { results := [.lit (.bool false)], args := [d1, d2] }
  | _ => none }
def RecordBeginsWrongFalsely : Prop := recordBeginsRow.holds Try.pinned (OpenSpec.ofChange recordBeginsWrong)

/-- 'tometop.TopRecords': WHATEVER THE INPUT: true; the input reads as it did. -/
def topRecordsSpec : ChangeSpec := { name := "topRecords", fn := fun _ => fun
  | [d1, d2, d3] => { results := [.lit (.bool true)], args := [d1, d2, d3] }
  | _ => none }
def topRecordsRow : OpenClaim := { program := "ytbbdglikdogmhaa", sum := "54049882e2a91c9ea95afd0522df1f49f1f3fc1c81217431310d096abdc1aa9b", func := "tome/tometop.TopRecords", spec := "topRecords", inPlace := ["internal/bytealg.abigen_runtime_cmpstring"], unfollowed := true, recurses := true, apart := false }
def TopRecordsSaid : Prop := topRecordsRow.holds Try.pinned (OpenSpec.ofChange topRecordsSpec)

/-- ITS FALSE NEIGHBOUR: 'it returns false'. Refute it at one input. -/
def topRecordsWrong : ChangeSpec := { name := "topRecords", fn := fun _ => fun
  | [d1, d2, d3] => { results := [.lit (.bool false)], args := [d1, d2, d3] }
  | _ => none }
def TopRecordsWrongFalsely : Prop := topRecordsRow.holds Try.pinned (OpenSpec.ofChange topRecordsWrong)

/- THE SECOND FORM. 'bulk': how many values and letters a reading holds, each counted each time it is reached (what is shared counts as often as it is met; a slice's spare places count too). A statement '..UptoSaid' is the law's where the arguments, and the package variables that the reading takes, are together of bulk at most 1048576: NARROWER than '..Said'. Prove '..Said' where nothing that the law and all that it calls make is longer than what came in: it says more and counts as full. Else prove '..UptoSaid'. A law counts once. -/
mutual
def uptoBulk {H : Type} : DataW H → Nat
  | .lit (.string bytes) => bytes.length + 1
  | .lit _ => 1
  | .nil => 1
  | .ptr d => uptoBulk d + 1
  | .slice elems spare => uptoBulkAll elems + uptoBulkAll spare + 1
  | .agg parts => uptoBulkAll parts + 1
  | .iface _ d => uptoBulk d + 1
  | .map entries => uptoBulkEntries entries + 1
  | .held _ => 1
def uptoBulkAll {H : Type} : List (DataW H) → Nat
  | [] => 0
  | d :: r => uptoBulk d + uptoBulkAll r
def uptoBulkEntries {H : Type} : List (Lit × DataW H) → Nat
  | [] => 0
  | x :: r => uptoBulkEntry x + uptoBulkEntries r
def uptoBulkEntry {H : Type} : Lit × DataW H → Nat
  | (.string bytes, d) => bytes.length + uptoBulk d + 1
  | (_, d) => uptoBulk d + 1
 end
def uptoSmall : (H : Type) → List (DataW H) → Bool := fun _ ds => decide (uptoBulkAll ds ≤ 1048576)
def OpenSpec.upto (s : _root_.Go.ChangeSpec) : _root_.Go.OpenSpec := { _root_.Go.OpenSpec.ofChange s with cond := some uptoSmall }

/-- 'tomelaw05.RecordEncodes', WHERE WHAT IT READS IS OF BULK AT MOST 1048576: true; the input reads as it did. -/
def recordEncodesUptoRow : OpenClaim := { program := "ytbbdglikdogmhaa", sum := "54049882e2a91c9ea95afd0522df1f49f1f3fc1c81217431310d096abdc1aa9b", func := "tome/tomelaw05.RecordEncodes", spec := "recordEncodes", apart := false, narrowed := true }
def RecordEncodesUptoSaid : Prop := recordEncodesUptoRow.holds Try.pinned (OpenSpec.upto recordEncodesSpec)

/-- 'tomelaw05.RecordDecodes', WHERE WHAT IT READS IS OF BULK AT MOST 1048576: true; the input reads as it did. -/
def recordDecodesUptoRow : OpenClaim := { program := "ytbbdglikdogmhaa", sum := "54049882e2a91c9ea95afd0522df1f49f1f3fc1c81217431310d096abdc1aa9b", func := "tome/tomelaw05.RecordDecodes", spec := "recordDecodes", apart := false, narrowed := true }
def RecordDecodesUptoSaid : Prop := recordDecodesUptoRow.holds Try.pinned (OpenSpec.upto recordDecodesSpec)

/-- 'tomelaw05.RecordApart', WHERE WHAT IT READS IS OF BULK AT MOST 1048576: true; the input reads as it did. -/
def recordApartUptoRow : OpenClaim := { program := "ytbbdglikdogmhaa", sum := "54049882e2a91c9ea95afd0522df1f49f1f3fc1c81217431310d096abdc1aa9b", func := "tome/tomelaw05.RecordApart", spec := "recordApart", apart := false, narrowed := true }
def RecordApartUptoSaid : Prop := recordApartUptoRow.holds Try.pinned (OpenSpec.upto recordApartSpec)

/-- 'tomelaw05.RecordFirsts', WHERE WHAT IT READS IS OF BULK AT MOST 1048576: true; the input reads as it did. -/
def recordFirstsUptoRow : OpenClaim := { program := "ytbbdglikdogmhaa", sum := "54049882e2a91c9ea95afd0522df1f49f1f3fc1c81217431310d096abdc1aa9b", func := "tome/tomelaw05.RecordFirsts", spec := "recordFirsts", apart := false, narrowed := true }
def RecordFirstsUptoSaid : Prop := recordFirstsUptoRow.holds Try.pinned (OpenSpec.upto recordFirstsSpec)

/-- 'tomelaw05.RecordBegins', WHERE WHAT IT READS IS OF BULK AT MOST 1048576: true; the input reads as it did. -/
def recordBeginsUptoRow : OpenClaim := { program := "ytbbdglikdogmhaa", sum := "54049882e2a91c9ea95afd0522df1f49f1f3fc1c81217431310d096abdc1aa9b", func := "tome/tomelaw05.RecordBegins", spec := "recordBegins", apart := false, narrowed := true }
def RecordBeginsUptoSaid : Prop := recordBeginsUptoRow.holds Try.pinned (OpenSpec.upto recordBeginsSpec)

/-- 'tometop.TopRecords', WHERE WHAT IT READS IS OF BULK AT MOST 1048576: true; the input reads as it did. -/
def topRecordsUptoRow : OpenClaim := { program := "ytbbdglikdogmhaa", sum := "54049882e2a91c9ea95afd0522df1f49f1f3fc1c81217431310d096abdc1aa9b", func := "tome/tometop.TopRecords", spec := "topRecords", inPlace := ["internal/bytealg.abigen_runtime_cmpstring"], unfollowed := true, recurses := true, apart := false, narrowed := true }
def TopRecordsUptoSaid : Prop := topRecordsUptoRow.holds Try.pinned (OpenSpec.upto topRecordsSpec)

end Rows
end Go.Proofs.Ytbbdglikdogmhaa
