/-
  No cell of these rows narrows 'for every input' (looked for: loops, veiled, ifaces, maps, wideKeys, modest, calm, conditions, laid).
  DERIVED. THE GIVEN ROWS OF THIS SEAT. 11 by the template 'for every input the law returns true; each argument reads behind the call as it read before'; 0 by the template 'total and deterministic' (their statements: YtpcbgnedcbcapaaTotals.lean).
  GIVEN WITH THE SEED: the statements are not yours to turn. If you find one false, say at which input.
  Laid BY PROGRAM, IN A SANDBOX (cutbox-rows.mjs): the forced cells as the released guide's own fill.sh prints them over the translation f9d2c09d34286f39… (all of the seat's roots in one cut). By AI agents, Wed Nov 11 2026. No macro, syntax, notation, axiom, sorry.
-/
import Derived.Test.YtpcbgnedcbcapaaChecked
import GoSem.Claim
import GoSem.ClaimJoined
import GoSem.ClaimMapViews
import Derived.JoinedTies
import Derived.KernelRfl
namespace Go.Proofs.Ytpcbgnedcbcapaa
/- THE CELL 'sum', in the pinned program and in every row, IS THE sha256 OF THE DUMP (.gsa) THAT YtpcbgnedcbcapaaProg.lean LOADS. Nothing in Lean hashes anything: it is a label: what it is worth is what the hold of that sum in a sandbox is worth. -/
noncomputable def Try.pinned : Pinned := { name := "ytpcbgnedcbcapaa", sum := "f9d2c09d34286f39b613bb6c4f75d07f1907083b52a6a3710c26851f3b166300", checked := Try.checked }
namespace Rows
def none {H : Type} : Left H := { results := [], args := [] }

/-- 'tomelaw02.SumTells': WHATEVER THE INPUT: true; the input reads as it did. -/
def sumTellsSpec : ChangeSpec := { name := "sumTells", fn := fun _ => fun
  | [d] => { results := [.lit (.bool true)], args := [d] }
  | _ => none }
def sumTellsRow : OpenClaim := { program := "ytpcbgnedcbcapaa", sum := "f9d2c09d34286f39b613bb6c4f75d07f1907083b52a6a3710c26851f3b166300", func := "tome/tomelaw02.SumTells", spec := "sumTells", apart := false }
def SumTellsSaid : Prop := sumTellsRow.holds Try.pinned (OpenSpec.ofChange sumTellsSpec)

/-- ITS FALSE NEIGHBOUR: 'it returns false'. Refute it at one input. -/
def sumTellsWrong : ChangeSpec := { name := "sumTells", fn := fun _ => fun
  | [d] => { results := [.lit (.bool false)], args := [d] }
  | _ => none }
def SumTellsWrongFalsely : Prop := sumTellsRow.holds Try.pinned (OpenSpec.ofChange sumTellsWrong)

/-- 'tomelaw02.SumTurned': WHATEVER THE INPUT: true; the input reads as it did. -/
def sumTurnedSpec : ChangeSpec := { name := "sumTurned", fn := fun _ => fun
  | [d1, d2, d3] => { results := [.lit (.bool true)], args := [d1, d2, d3] }
  | _ => none }
def sumTurnedRow : OpenClaim := { program := "ytpcbgnedcbcapaa", sum := "f9d2c09d34286f39b613bb6c4f75d07f1907083b52a6a3710c26851f3b166300", func := "tome/tomelaw02.SumTurned", spec := "sumTurned", apart := false }
def SumTurnedSaid : Prop := sumTurnedRow.holds Try.pinned (OpenSpec.ofChange sumTurnedSpec)

/-- ITS FALSE NEIGHBOUR: 'it returns false'. Refute it at one input. -/
def sumTurnedWrong : ChangeSpec := { name := "sumTurned", fn := fun _ => fun
  | [d1, d2, d3] => { results := [.lit (.bool false)], args := [d1, d2, d3] }
  | _ => none }
def SumTurnedWrongFalsely : Prop := sumTurnedRow.holds Try.pinned (OpenSpec.ofChange sumTurnedWrong)

/-- 'tomelaw02.SumSeals': WHATEVER THE INPUT: true; the input reads as it did. -/
def sumSealsSpec : ChangeSpec := { name := "sumSeals", fn := fun _ => fun
  | [d] => { results := [.lit (.bool true)], args := [d] }
  | _ => none }
def sumSealsRow : OpenClaim := { program := "ytpcbgnedcbcapaa", sum := "f9d2c09d34286f39b613bb6c4f75d07f1907083b52a6a3710c26851f3b166300", func := "tome/tomelaw02.SumSeals", spec := "sumSeals", apart := false }
def SumSealsSaid : Prop := sumSealsRow.holds Try.pinned (OpenSpec.ofChange sumSealsSpec)

/-- ITS FALSE NEIGHBOUR: 'it returns false'. Refute it at one input. -/
def sumSealsWrong : ChangeSpec := { name := "sumSeals", fn := fun _ => fun
  | [d] => { results := [.lit (.bool false)], args := [d] }
  | _ => none }
def SumSealsWrongFalsely : Prop := sumSealsRow.holds Try.pinned (OpenSpec.ofChange sumSealsWrong)

/-- 'tomelaw02.SumBreaks': WHATEVER THE INPUT: true; the input reads as it did. -/
def sumBreaksSpec : ChangeSpec := { name := "sumBreaks", fn := fun _ => fun
  | [d1, d2, d3] => { results := [.lit (.bool true)], args := [d1, d2, d3] }
  | _ => none }
def sumBreaksRow : OpenClaim := { program := "ytpcbgnedcbcapaa", sum := "f9d2c09d34286f39b613bb6c4f75d07f1907083b52a6a3710c26851f3b166300", func := "tome/tomelaw02.SumBreaks", spec := "sumBreaks", apart := false }
def SumBreaksSaid : Prop := sumBreaksRow.holds Try.pinned (OpenSpec.ofChange sumBreaksSpec)

/-- ITS FALSE NEIGHBOUR: 'it returns false'. Refute it at one input. -/
def sumBreaksWrong : ChangeSpec := { name := "sumBreaks", fn := fun _ => fun
  | [d1, d2, d3] => { results := [.lit (.bool false)], args := [d1, d2, d3] }
  | _ => none }
def SumBreaksWrongFalsely : Prop := sumBreaksRow.holds Try.pinned (OpenSpec.ofChange sumBreaksWrong)

/-- 'tomelaw02.SumChains': WHATEVER THE INPUT: true; the input reads as it did. -/
def sumChainsSpec : ChangeSpec := { name := "sumChains", fn := fun _ => fun
  | [d1, d2, d3] => { results := [.lit (.bool true)], args := [d1, d2, d3] }
  | _ => none }
def sumChainsRow : OpenClaim := { program := "ytpcbgnedcbcapaa", sum := "f9d2c09d34286f39b613bb6c4f75d07f1907083b52a6a3710c26851f3b166300", func := "tome/tomelaw02.SumChains", spec := "sumChains", apart := false }
def SumChainsSaid : Prop := sumChainsRow.holds Try.pinned (OpenSpec.ofChange sumChainsSpec)

/-- ITS FALSE NEIGHBOUR: 'it returns false'. Refute it at one input. -/
def sumChainsWrong : ChangeSpec := { name := "sumChains", fn := fun _ => fun
  | [d1, d2, d3] => { results := [.lit (.bool false)], args := [d1, d2, d3] }
  | _ => none }
def SumChainsWrongFalsely : Prop := sumChainsRow.holds Try.pinned (OpenSpec.ofChange sumChainsWrong)

/-- 'tomelaw02.SumApart': WHATEVER THE INPUT: true; the input reads as it did. -/
def sumApartSpec : ChangeSpec := { name := "sumApart", fn := fun _ => fun
  | [d1, d2, d3] => { results := [.lit (.bool true)], args := [d1, d2, d3] }
  | _ => none }
def sumApartRow : OpenClaim := { program := "ytpcbgnedcbcapaa", sum := "f9d2c09d34286f39b613bb6c4f75d07f1907083b52a6a3710c26851f3b166300", func := "tome/tomelaw02.SumApart", spec := "sumApart", apart := false }
def SumApartSaid : Prop := sumApartRow.holds Try.pinned (OpenSpec.ofChange sumApartSpec)

/-- ITS FALSE NEIGHBOUR: 'it returns false'. Refute it at one input. -/
def sumApartWrong : ChangeSpec := { name := "sumApart", fn := fun _ => fun
  | [d1, d2, d3] => { results := [.lit (.bool false)], args := [d1, d2, d3] }
  | _ => none }
def SumApartWrongFalsely : Prop := sumApartRow.holds Try.pinned (OpenSpec.ofChange sumApartWrong)

/-- 'tomelaw01.NumFixed': WHATEVER THE INPUT: true; the input reads as it did. -/
def numFixedSpec : ChangeSpec := { name := "numFixed", fn := fun _ => fun
  | [d1, d2, d3] => { results := [.lit (.bool true)], args := [d1, d2, d3] }
  | _ => none }
def numFixedRow : OpenClaim := { program := "ytpcbgnedcbcapaa", sum := "f9d2c09d34286f39b613bb6c4f75d07f1907083b52a6a3710c26851f3b166300", func := "tome/tomelaw01.NumFixed", spec := "numFixed", inPlace := ["internal/bytealg.MakeNoZero"], apart := false }
def NumFixedSaid : Prop := numFixedRow.holds Try.pinned (OpenSpec.ofChange numFixedSpec)

/-- ITS FALSE NEIGHBOUR: 'it returns false'. Refute it at one input. -/
def numFixedWrong : ChangeSpec := { name := "numFixed", fn := fun _ => fun
  | [d1, d2, d3] => { results := [.lit (.bool false)], args := [d1, d2, d3] }
  | _ => none }
def NumFixedWrongFalsely : Prop := numFixedRow.holds Try.pinned (OpenSpec.ofChange numFixedWrong)

/-- 'tomelaw01.NumVarint': WHATEVER THE INPUT: true; the input reads as it did. -/
def numVarintSpec : ChangeSpec := { name := "numVarint", fn := fun _ => fun
  | [d1, d2] => { results := [.lit (.bool true)], args := [d1, d2] }
  | _ => none }
def numVarintRow : OpenClaim := { program := "ytpcbgnedcbcapaa", sum := "f9d2c09d34286f39b613bb6c4f75d07f1907083b52a6a3710c26851f3b166300", func := "tome/tomelaw01.NumVarint", spec := "numVarint", inPlace := ["internal/bytealg.MakeNoZero"], apart := false }
def NumVarintSaid : Prop := numVarintRow.holds Try.pinned (OpenSpec.ofChange numVarintSpec)

/-- ITS FALSE NEIGHBOUR: 'it returns false'. Refute it at one input. -/
def numVarintWrong : ChangeSpec := { name := "numVarint", fn := fun _ => fun
  | [d1, d2] => { results := [.lit (.bool false)], args := [d1, d2] }
  | _ => none }
def NumVarintWrongFalsely : Prop := numVarintRow.holds Try.pinned (OpenSpec.ofChange numVarintWrong)

/-- 'tomelaw01.NumJoins': WHATEVER THE INPUT: true; the input reads as it did. -/
def numJoinsSpec : ChangeSpec := { name := "numJoins", fn := fun _ => fun
  | [d1, d2, d3] => { results := [.lit (.bool true)], args := [d1, d2, d3] }
  | _ => none }
def numJoinsRow : OpenClaim := { program := "ytpcbgnedcbcapaa", sum := "f9d2c09d34286f39b613bb6c4f75d07f1907083b52a6a3710c26851f3b166300", func := "tome/tomelaw01.NumJoins", spec := "numJoins", inPlace := ["internal/bytealg.MakeNoZero"], apart := false }
def NumJoinsSaid : Prop := numJoinsRow.holds Try.pinned (OpenSpec.ofChange numJoinsSpec)

/-- ITS FALSE NEIGHBOUR: 'it returns false'. Refute it at one input. -/
def numJoinsWrong : ChangeSpec := { name := "numJoins", fn := fun _ => fun
  | [d1, d2, d3] => { results := [.lit (.bool false)], args := [d1, d2, d3] }
  | _ => none }
def NumJoinsWrongFalsely : Prop := numJoinsRow.holds Try.pinned (OpenSpec.ofChange numJoinsWrong)

/-- 'tomelaw01.NumBack': WHATEVER THE INPUT: true; the input reads as it did. -/
def numBackSpec : ChangeSpec := { name := "numBack", fn := fun _ => fun
  | [d1, d2, d3] => { results := [.lit (.bool true)], args := [d1, d2, d3] }
  | _ => none }
def numBackRow : OpenClaim := { program := "ytpcbgnedcbcapaa", sum := "f9d2c09d34286f39b613bb6c4f75d07f1907083b52a6a3710c26851f3b166300", func := "tome/tomelaw01.NumBack", spec := "numBack", inPlace := ["internal/bytealg.MakeNoZero"], apart := false }
def NumBackSaid : Prop := numBackRow.holds Try.pinned (OpenSpec.ofChange numBackSpec)

/-- ITS FALSE NEIGHBOUR: 'it returns false'. Refute it at one input. -/
def numBackWrong : ChangeSpec := { name := "numBack", fn := fun _ => fun
  | [d1, d2, d3] => { results := [.lit (.bool false)], args := [d1, d2, d3] }
  | _ => none }
def NumBackWrongFalsely : Prop := numBackRow.holds Try.pinned (OpenSpec.ofChange numBackWrong)

/-- 'tomelaw01.NumOrder': WHATEVER THE INPUT: true; the input reads as it did. -/
def numOrderSpec : ChangeSpec := { name := "numOrder", fn := fun _ => fun
  | [d1, d2] => { results := [.lit (.bool true)], args := [d1, d2] }
  | _ => none }
def numOrderRow : OpenClaim := { program := "ytpcbgnedcbcapaa", sum := "f9d2c09d34286f39b613bb6c4f75d07f1907083b52a6a3710c26851f3b166300", func := "tome/tomelaw01.NumOrder", spec := "numOrder", inPlace := ["internal/bytealg.MakeNoZero"], apart := false }
def NumOrderSaid : Prop := numOrderRow.holds Try.pinned (OpenSpec.ofChange numOrderSpec)

/-- ITS FALSE NEIGHBOUR: 'it returns false'. Refute it at one input. -/
def numOrderWrong : ChangeSpec := { name := "numOrder", fn := fun _ => fun
  | [d1, d2] => { results := [.lit (.bool false)], args := [d1, d2] }
  | _ => none }
def NumOrderWrongFalsely : Prop := numOrderRow.holds Try.pinned (OpenSpec.ofChange numOrderWrong)

/- THE SECOND FORM. 'bulk': how many values and letters a reading holds, each counted each time it is reached (what is shared counts as often as it is met; a slice's spare places count too). A statement '..UptoSaid' is the law's where the arguments, and the package variables that the reading takes, are together of bulk at most 1048576: NARROWER than '..Said'. Prove '..Said' where nothing that the law and all that it calls make is longer than what came in: it says more and counts as full. Else prove '..UptoSaid'. A law counts once. -/
mutual
def uptoBulk {H : Type} : DataW H → Nat
  | .lit (.string bytes) => bytes.length + 1
  | .lit _ => 1
  | .nil => 1
  | .ptr d => uptoBulk d + 1
  | .slice elems spare => uptoBulkAll elems + uptoBulkAll spare + 1
  | .agg parts => uptoBulkAll parts + 1
  | .iface _ d => uptoBulk d + 1
  | .map entries => uptoBulkEntries entries + 1
  | .held _ => 1
def uptoBulkAll {H : Type} : List (DataW H) → Nat
  | [] => 0
  | d :: r => uptoBulk d + uptoBulkAll r
def uptoBulkEntries {H : Type} : List (Lit × DataW H) → Nat
  | [] => 0
  | x :: r => uptoBulkEntry x + uptoBulkEntries r
def uptoBulkEntry {H : Type} : Lit × DataW H → Nat
  | (.string bytes, d) => bytes.length + uptoBulk d + 1
  | (_, d) => uptoBulk d + 1
 end
def uptoSmall : (H : Type) → List (DataW H) → Bool := fun _ ds => decide (uptoBulkAll ds ≤ 1048576)
def OpenSpec.upto (s : _root_.Go.ChangeSpec) : _root_.Go.OpenSpec := { _root_.Go.OpenSpec.ofChange s with cond := some uptoSmall }

/-- 'tomelaw02.SumTells', WHERE WHAT IT READS IS OF BULK AT MOST 1048576: true; the input reads as it did. -/
def sumTellsUptoRow : OpenClaim := { program := "ytpcbgnedcbcapaa", sum := "f9d2c09d34286f39b613bb6c4f75d07f1907083b52a6a3710c26851f3b166300", func := "tome/tomelaw02.SumTells", spec := "sumTells", apart := false, narrowed := true }
def SumTellsUptoSaid : Prop := sumTellsUptoRow.holds Try.pinned (OpenSpec.upto sumTellsSpec)

/-- 'tomelaw02.SumTurned', WHERE WHAT IT READS IS OF BULK AT MOST 1048576: true; the input reads as it did. -/
def sumTurnedUptoRow : OpenClaim := { program := "ytpcbgnedcbcapaa", sum := "f9d2c09d34286f39b613bb6c4f75d07f1907083b52a6a3710c26851f3b166300", func := "tome/tomelaw02.SumTurned", spec := "sumTurned", apart := false, narrowed := true }
def SumTurnedUptoSaid : Prop := sumTurnedUptoRow.holds Try.pinned (OpenSpec.upto sumTurnedSpec)

/-- 'tomelaw02.SumSeals', WHERE WHAT IT READS IS OF BULK AT MOST 1048576: true; the input reads as it did. -/
def sumSealsUptoRow : OpenClaim := { program := "ytpcbgnedcbcapaa", sum := "f9d2c09d34286f39b613bb6c4f75d07f1907083b52a6a3710c26851f3b166300", func := "tome/tomelaw02.SumSeals", spec := "sumSeals", apart := false, narrowed := true }
def SumSealsUptoSaid : Prop := sumSealsUptoRow.holds Try.pinned (OpenSpec.upto sumSealsSpec)

/-- 'tomelaw02.SumBreaks', WHERE WHAT IT READS IS OF BULK AT MOST 1048576: true; the input reads as it did. -/
def sumBreaksUptoRow : OpenClaim := { program := "ytpcbgnedcbcapaa", sum := "f9d2c09d34286f39b613bb6c4f75d07f1907083b52a6a3710c26851f3b166300", func := "tome/tomelaw02.SumBreaks", spec := "sumBreaks", apart := false, narrowed := true }
def SumBreaksUptoSaid : Prop := sumBreaksUptoRow.holds Try.pinned (OpenSpec.upto sumBreaksSpec)

/-- 'tomelaw02.SumChains', WHERE WHAT IT READS IS OF BULK AT MOST 1048576: true; the input reads as it did. -/
def sumChainsUptoRow : OpenClaim := { program := "ytpcbgnedcbcapaa", sum := "f9d2c09d34286f39b613bb6c4f75d07f1907083b52a6a3710c26851f3b166300", func := "tome/tomelaw02.SumChains", spec := "sumChains", apart := false, narrowed := true }
def SumChainsUptoSaid : Prop := sumChainsUptoRow.holds Try.pinned (OpenSpec.upto sumChainsSpec)

/-- 'tomelaw02.SumApart', WHERE WHAT IT READS IS OF BULK AT MOST 1048576: true; the input reads as it did. -/
def sumApartUptoRow : OpenClaim := { program := "ytpcbgnedcbcapaa", sum := "f9d2c09d34286f39b613bb6c4f75d07f1907083b52a6a3710c26851f3b166300", func := "tome/tomelaw02.SumApart", spec := "sumApart", apart := false, narrowed := true }
def SumApartUptoSaid : Prop := sumApartUptoRow.holds Try.pinned (OpenSpec.upto sumApartSpec)

/-- 'tomelaw01.NumFixed', WHERE WHAT IT READS IS OF BULK AT MOST 1048576: true; the input reads as it did. -/
def numFixedUptoRow : OpenClaim := { program := "ytpcbgnedcbcapaa", sum := "f9d2c09d34286f39b613bb6c4f75d07f1907083b52a6a3710c26851f3b166300", func := "tome/tomelaw01.NumFixed", spec := "numFixed", inPlace := ["internal/bytealg.MakeNoZero"], apart := false, narrowed := true }
def NumFixedUptoSaid : Prop := numFixedUptoRow.holds Try.pinned (OpenSpec.upto numFixedSpec)

/-- 'tomelaw01.NumVarint', WHERE WHAT IT READS IS OF BULK AT MOST 1048576: true; the input reads as it did. -/
def numVarintUptoRow : OpenClaim := { program := "ytpcbgnedcbcapaa", sum := "f9d2c09d34286f39b613bb6c4f75d07f1907083b52a6a3710c26851f3b166300", func := "tome/tomelaw01.NumVarint", spec := "numVarint", inPlace := ["internal/bytealg.MakeNoZero"], apart := false, narrowed := true }
def NumVarintUptoSaid : Prop := numVarintUptoRow.holds Try.pinned (OpenSpec.upto numVarintSpec)

/-- 'tomelaw01.NumJoins', WHERE WHAT IT READS IS OF BULK AT MOST 1048576: true; the input reads as it did. -/
def numJoinsUptoRow : OpenClaim := { program := "ytpcbgnedcbcapaa", sum := "f9d2c09d34286f39b613bb6c4f75d07f1907083b52a6a3710c26851f3b166300", func := "tome/tomelaw01.NumJoins", spec := "numJoins", inPlace := ["internal/bytealg.MakeNoZero"], apart := false, narrowed := true }
def NumJoinsUptoSaid : Prop := numJoinsUptoRow.holds Try.pinned (OpenSpec.upto numJoinsSpec)

/-- 'tomelaw01.NumBack', WHERE WHAT IT READS IS OF BULK AT MOST 1048576: true; the input reads as it did. -/
def numBackUptoRow : OpenClaim := { program := "ytpcbgnedcbcapaa", sum := "f9d2c09d34286f39b613bb6c4f75d07f1907083b52a6a3710c26851f3b166300", func := "tome/tomelaw01.NumBack", spec := "numBack", inPlace := ["internal/bytealg.MakeNoZero"], apart := false, narrowed := true }
def NumBackUptoSaid : Prop := numBackUptoRow.holds Try.pinned (OpenSpec.upto numBackSpec)

/-- 'tomelaw01.NumOrder', WHERE WHAT IT READS IS OF BULK AT MOST 1048576: true; the input reads as it did. -/
def numOrderUptoRow : OpenClaim := { program := "ytpcbgnedcbcapaa", sum := "f9d2c09d34286f39b613bb6c4f75d07f1907083b52a6a3710c26851f3b166300", func := "tome/tomelaw01.NumOrder", spec := "numOrder", inPlace := ["internal/bytealg.MakeNoZero"], apart := false, narrowed := true }
def NumOrderUptoSaid : Prop := numOrderUptoRow.holds Try.pinned (OpenSpec.upto numOrderSpec)

end Rows
end Go.Proofs.Ytpcbgnedcbcapaa
