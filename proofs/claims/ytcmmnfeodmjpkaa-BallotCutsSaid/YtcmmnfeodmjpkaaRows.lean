/-
  No cell of these rows narrows 'for every input' (looked for: loops, veiled, ifaces, maps, wideKeys, modest, calm, conditions, laid).
  DERIVED. THE GIVEN ROWS OF THIS SEAT. 14 by the template 'for every input the law returns true; each argument reads behind the call as it read before'; 0 by the template 'total and deterministic' (their statements: YtcmmnfeodmjpkaaTotals.lean).
  GIVEN WITH THE SEED: the statements are not yours to turn. If you find one false, say at which input.
  Laid BY PROGRAM, IN A SANDBOX (cutbox-rows.mjs): the forced cells as the released guide's own fill.sh prints them over the translation fd8026f88fa8fcc9… (all of the seat's roots in one cut). By AI agents, Wed Nov 11 2026. No macro, syntax, notation, axiom, sorry.
-/
import Derived.Test.YtcmmnfeodmjpkaaChecked
import GoSem.Claim
import GoSem.ClaimJoined
import GoSem.ClaimMapViews
import Derived.JoinedTies
import Derived.KernelRfl
namespace Go.Proofs.Ytcmmnfeodmjpkaa
/- THE CELL 'sum', in the pinned program and in every row, IS THE sha256 OF THE DUMP (.gsa) THAT YtcmmnfeodmjpkaaProg.lean LOADS. Nothing in Lean hashes anything: it is a label: what it is worth is what the hold of that sum in a sandbox is worth. -/
noncomputable def Try.pinned : Pinned := { name := "ytcmmnfeodmjpkaa", sum := "fd8026f88fa8fcc9c5cc92680fbbc3b1978d31f0fe7082a57e285cd946d85eef", checked := Try.checked }
namespace Rows
def none {H : Type} : Left H := { results := [], args := [] }

/-- 'scrutineerlaw08.HashOf': WHATEVER THE INPUT: true; the input reads as it did. -/
def hashOfSpec : ChangeSpec := { name := "hashOf", fn := fun _ => fun
  | [d] => { results := [.lit (.bool true)], args := [d] }
  | _ => none }
def hashOfRow : OpenClaim := { program := "ytcmmnfeodmjpkaa", sum := "fd8026f88fa8fcc9c5cc92680fbbc3b1978d31f0fe7082a57e285cd946d85eef", func := "scrutineer/scrutineerlaw08.HashOf", spec := "hashOf", apart := false }
def HashOfSaid : Prop := hashOfRow.holds Try.pinned (OpenSpec.ofChange hashOfSpec)

/-- ITS FALSE NEIGHBOUR: 'it returns false'. Refute it at one input. -/
def hashOfWrong : ChangeSpec := { name := "hashOf", fn := fun _ => fun
  | [d] => { results := [.lit (.bool false)], args := [d] }
  | _ => none }
def HashOfWrongFalsely : Prop := hashOfRow.holds Try.pinned (OpenSpec.ofChange hashOfWrong)

/-- 'scrutineerlaw08.HashLast': WHATEVER THE INPUT: true; the input reads as it did. -/
def hashLastSpec : ChangeSpec := { name := "hashLast", fn := fun _ => fun
  | [d1, d2, d3] => { results := [.lit (.bool true)], args := [d1, d2, d3] }
  | _ => none }
def hashLastRow : OpenClaim := { program := "ytcmmnfeodmjpkaa", sum := "fd8026f88fa8fcc9c5cc92680fbbc3b1978d31f0fe7082a57e285cd946d85eef", func := "scrutineer/scrutineerlaw08.HashLast", spec := "hashLast", apart := false }
def HashLastSaid : Prop := hashLastRow.holds Try.pinned (OpenSpec.ofChange hashLastSpec)

/-- ITS FALSE NEIGHBOUR: 'it returns false'. Refute it at one input. -/
def hashLastWrong : ChangeSpec := { name := "hashLast", fn := fun _ => fun
  | [d1, d2, d3] => { results := [.lit (.bool false)], args := [d1, d2, d3] }
  | _ => none }
def HashLastWrongFalsely : Prop := hashLastRow.holds Try.pinned (OpenSpec.ofChange hashLastWrong)

/-- 'scrutineerlaw08.HashStirs': WHATEVER THE INPUT: true; the input reads as it did. -/
def hashStirsSpec : ChangeSpec := { name := "hashStirs", fn := fun _ => fun
  | [d1, d2, d3, d4] => { results := [.lit (.bool true)], args := [d1, d2, d3, d4] }
  | _ => none }
def hashStirsRow : OpenClaim := { program := "ytcmmnfeodmjpkaa", sum := "fd8026f88fa8fcc9c5cc92680fbbc3b1978d31f0fe7082a57e285cd946d85eef", func := "scrutineer/scrutineerlaw08.HashStirs", spec := "hashStirs", apart := false }
def HashStirsSaid : Prop := hashStirsRow.holds Try.pinned (OpenSpec.ofChange hashStirsSpec)

/-- ITS FALSE NEIGHBOUR: 'it returns false'. Refute it at one input. -/
def hashStirsWrong : ChangeSpec := { name := "hashStirs", fn := fun _ => fun
  | [d1, d2, d3, d4] => { results := [.lit (.bool false)], args := [d1, d2, d3, d4] }
  | _ => none }
def HashStirsWrongFalsely : Prop := hashStirsRow.holds Try.pinned (OpenSpec.ofChange hashStirsWrong)

/-- 'scrutineerlaw01.PackPuts': WHATEVER THE INPUT: true; the input reads as it did. -/
def packPutsSpec : ChangeSpec := { name := "packPuts", fn := fun _ => fun
  | [d1, d2, d3, d4] => { results := [.lit (.bool true)], args := [d1, d2, d3, d4] }
  | _ => none }
def packPutsRow : OpenClaim := { program := "ytcmmnfeodmjpkaa", sum := "fd8026f88fa8fcc9c5cc92680fbbc3b1978d31f0fe7082a57e285cd946d85eef", func := "scrutineer/scrutineerlaw01.PackPuts", spec := "packPuts", apart := false }
def PackPutsSaid : Prop := packPutsRow.holds Try.pinned (OpenSpec.ofChange packPutsSpec)

/-- ITS FALSE NEIGHBOUR: 'it returns false'. Refute it at one input. -/
def packPutsWrong : ChangeSpec := { name := "packPuts", fn := fun _ => fun
  | [d1, d2, d3, d4] => { results := [.lit (.bool false)], args := [d1, d2, d3, d4] }
  | _ => none }
def PackPutsWrongFalsely : Prop := packPutsRow.holds Try.pinned (OpenSpec.ofChange packPutsWrong)

/-- 'scrutineerlaw02.SumOf': WHATEVER THE INPUT: true; the input reads as it did. -/
def sumOfSpec : ChangeSpec := { name := "sumOf", fn := fun _ => fun
  | [d1, d2] => { results := [.lit (.bool true)], args := [d1, d2] }
  | _ => none }
def sumOfRow : OpenClaim := { program := "ytcmmnfeodmjpkaa", sum := "fd8026f88fa8fcc9c5cc92680fbbc3b1978d31f0fe7082a57e285cd946d85eef", func := "scrutineer/scrutineerlaw02.SumOf", spec := "sumOf", apart := false }
def SumOfSaid : Prop := sumOfRow.holds Try.pinned (OpenSpec.ofChange sumOfSpec)

/-- ITS FALSE NEIGHBOUR: 'it returns false'. Refute it at one input. -/
def sumOfWrong : ChangeSpec := { name := "sumOf", fn := fun _ => fun
  | [d1, d2] => { results := [.lit (.bool false)], args := [d1, d2] }
  | _ => none }
def SumOfWrongFalsely : Prop := sumOfRow.holds Try.pinned (OpenSpec.ofChange sumOfWrong)

/-- 'scrutineerlaw02.SumTurns': WHATEVER THE INPUT: true; the input reads as it did. -/
def sumTurnsSpec : ChangeSpec := { name := "sumTurns", fn := fun _ => fun
  | [d1, d2, d3] => { results := [.lit (.bool true)], args := [d1, d2, d3] }
  | _ => none }
def sumTurnsRow : OpenClaim := { program := "ytcmmnfeodmjpkaa", sum := "fd8026f88fa8fcc9c5cc92680fbbc3b1978d31f0fe7082a57e285cd946d85eef", func := "scrutineer/scrutineerlaw02.SumTurns", spec := "sumTurns", apart := false }
def SumTurnsSaid : Prop := sumTurnsRow.holds Try.pinned (OpenSpec.ofChange sumTurnsSpec)

/-- ITS FALSE NEIGHBOUR: 'it returns false'. Refute it at one input. -/
def sumTurnsWrong : ChangeSpec := { name := "sumTurns", fn := fun _ => fun
  | [d1, d2, d3] => { results := [.lit (.bool false)], args := [d1, d2, d3] }
  | _ => none }
def SumTurnsWrongFalsely : Prop := sumTurnsRow.holds Try.pinned (OpenSpec.ofChange sumTurnsWrong)

/-- 'scrutineerlaw03.BallotOrder': WHATEVER THE INPUT: true; the input reads as it did. -/
def ballotOrderSpec : ChangeSpec := { name := "ballotOrder", fn := fun _ => fun
  | [d1, d2, d3] => { results := [.lit (.bool true)], args := [d1, d2, d3] }
  | _ => none }
def ballotOrderRow : OpenClaim := { program := "ytcmmnfeodmjpkaa", sum := "fd8026f88fa8fcc9c5cc92680fbbc3b1978d31f0fe7082a57e285cd946d85eef", func := "scrutineer/scrutineerlaw03.BallotOrder", spec := "ballotOrder", apart := false }
def BallotOrderSaid : Prop := ballotOrderRow.holds Try.pinned (OpenSpec.ofChange ballotOrderSpec)

/-- ITS FALSE NEIGHBOUR: 'it returns false'. Refute it at one input. -/
def ballotOrderWrong : ChangeSpec := { name := "ballotOrder", fn := fun _ => fun
  | [d1, d2, d3] => { results := [.lit (.bool false)], args := [d1, d2, d3] }
  | _ => none }
def BallotOrderWrongFalsely : Prop := ballotOrderRow.holds Try.pinned (OpenSpec.ofChange ballotOrderWrong)

/-- 'scrutineerlaw03.BallotNext': WHATEVER THE INPUT: true; the input reads as it did. -/
def ballotNextSpec : ChangeSpec := { name := "ballotNext", fn := fun _ => fun
  | [d1, d2, d3, d4] => { results := [.lit (.bool true)], args := [d1, d2, d3, d4] }
  | _ => none }
def ballotNextRow : OpenClaim := { program := "ytcmmnfeodmjpkaa", sum := "fd8026f88fa8fcc9c5cc92680fbbc3b1978d31f0fe7082a57e285cd946d85eef", func := "scrutineer/scrutineerlaw03.BallotNext", spec := "ballotNext", apart := false }
def BallotNextSaid : Prop := ballotNextRow.holds Try.pinned (OpenSpec.ofChange ballotNextSpec)

/-- ITS FALSE NEIGHBOUR: 'it returns false'. Refute it at one input. -/
def ballotNextWrong : ChangeSpec := { name := "ballotNext", fn := fun _ => fun
  | [d1, d2, d3, d4] => { results := [.lit (.bool false)], args := [d1, d2, d3, d4] }
  | _ => none }
def BallotNextWrongFalsely : Prop := ballotNextRow.holds Try.pinned (OpenSpec.ofChange ballotNextWrong)

/-- 'scrutineerlaw02.SumMarks': WHATEVER THE INPUT: true; the input reads as it did. -/
def sumMarksSpec : ChangeSpec := { name := "sumMarks", fn := fun _ => fun
  | [d] => { results := [.lit (.bool true)], args := [d] }
  | _ => none }
def sumMarksRow : OpenClaim := { program := "ytcmmnfeodmjpkaa", sum := "fd8026f88fa8fcc9c5cc92680fbbc3b1978d31f0fe7082a57e285cd946d85eef", func := "scrutineer/scrutineerlaw02.SumMarks", spec := "sumMarks", apart := false }
def SumMarksSaid : Prop := sumMarksRow.holds Try.pinned (OpenSpec.ofChange sumMarksSpec)

/-- ITS FALSE NEIGHBOUR: 'it returns false'. Refute it at one input. -/
def sumMarksWrong : ChangeSpec := { name := "sumMarks", fn := fun _ => fun
  | [d] => { results := [.lit (.bool false)], args := [d] }
  | _ => none }
def SumMarksWrongFalsely : Prop := sumMarksRow.holds Try.pinned (OpenSpec.ofChange sumMarksWrong)

/-- 'scrutineerlaw02.SumSpoilt': WHATEVER THE INPUT: true; the input reads as it did. -/
def sumSpoiltSpec : ChangeSpec := { name := "sumSpoilt", fn := fun _ => fun
  | [d1, d2, d3] => { results := [.lit (.bool true)], args := [d1, d2, d3] }
  | _ => none }
def sumSpoiltRow : OpenClaim := { program := "ytcmmnfeodmjpkaa", sum := "fd8026f88fa8fcc9c5cc92680fbbc3b1978d31f0fe7082a57e285cd946d85eef", func := "scrutineer/scrutineerlaw02.SumSpoilt", spec := "sumSpoilt", apart := false }
def SumSpoiltSaid : Prop := sumSpoiltRow.holds Try.pinned (OpenSpec.ofChange sumSpoiltSpec)

/-- ITS FALSE NEIGHBOUR: 'it returns false'. Refute it at one input. -/
def sumSpoiltWrong : ChangeSpec := { name := "sumSpoilt", fn := fun _ => fun
  | [d1, d2, d3] => { results := [.lit (.bool false)], args := [d1, d2, d3] }
  | _ => none }
def SumSpoiltWrongFalsely : Prop := sumSpoiltRow.holds Try.pinned (OpenSpec.ofChange sumSpoiltWrong)

/-- 'scrutineerlaw01.PackCuts': WHATEVER THE INPUT: true; the input reads as it did. -/
def packCutsSpec : ChangeSpec := { name := "packCuts", fn := fun _ => fun
  | [d1, d2, d3] => { results := [.lit (.bool true)], args := [d1, d2, d3] }
  | _ => none }
def packCutsRow : OpenClaim := { program := "ytcmmnfeodmjpkaa", sum := "fd8026f88fa8fcc9c5cc92680fbbc3b1978d31f0fe7082a57e285cd946d85eef", func := "scrutineer/scrutineerlaw01.PackCuts", spec := "packCuts", apart := false }
def PackCutsSaid : Prop := packCutsRow.holds Try.pinned (OpenSpec.ofChange packCutsSpec)

/-- ITS FALSE NEIGHBOUR: 'it returns false'. Refute it at one input. -/
def packCutsWrong : ChangeSpec := { name := "packCuts", fn := fun _ => fun
  | [d1, d2, d3] => { results := [.lit (.bool false)], args := [d1, d2, d3] }
  | _ => none }
def PackCutsWrongFalsely : Prop := packCutsRow.holds Try.pinned (OpenSpec.ofChange packCutsWrong)

/-- 'scrutineerlaw01.PackNil': WHATEVER THE INPUT: true; the input reads as it did. -/
def packNilSpec : ChangeSpec := { name := "packNil", fn := fun _ => fun
  | [d1, d2] => { results := [.lit (.bool true)], args := [d1, d2] }
  | _ => none }
def packNilRow : OpenClaim := { program := "ytcmmnfeodmjpkaa", sum := "fd8026f88fa8fcc9c5cc92680fbbc3b1978d31f0fe7082a57e285cd946d85eef", func := "scrutineer/scrutineerlaw01.PackNil", spec := "packNil", apart := false }
def PackNilSaid : Prop := packNilRow.holds Try.pinned (OpenSpec.ofChange packNilSpec)

/-- ITS FALSE NEIGHBOUR: 'it returns false'. Refute it at one input. -/
def packNilWrong : ChangeSpec := { name := "packNil", fn := fun _ => fun
  | [d1, d2] => { results := [.lit (.bool false)], args := [d1, d2] }
  | _ => none }
def PackNilWrongFalsely : Prop := packNilRow.holds Try.pinned (OpenSpec.ofChange packNilWrong)

/-- 'scrutineerlaw01.PackBack': WHATEVER THE INPUT: true; the input reads as it did. -/
def packBackSpec : ChangeSpec := { name := "packBack", fn := fun _ => fun
  | [d1, d2, d3] => { results := [.lit (.bool true)], args := [d1, d2, d3] }
  | _ => none }
def packBackRow : OpenClaim := { program := "ytcmmnfeodmjpkaa", sum := "fd8026f88fa8fcc9c5cc92680fbbc3b1978d31f0fe7082a57e285cd946d85eef", func := "scrutineer/scrutineerlaw01.PackBack", spec := "packBack", apart := false }
def PackBackSaid : Prop := packBackRow.holds Try.pinned (OpenSpec.ofChange packBackSpec)

/-- ITS FALSE NEIGHBOUR: 'it returns false'. Refute it at one input. -/
def packBackWrong : ChangeSpec := { name := "packBack", fn := fun _ => fun
  | [d1, d2, d3] => { results := [.lit (.bool false)], args := [d1, d2, d3] }
  | _ => none }
def PackBackWrongFalsely : Prop := packBackRow.holds Try.pinned (OpenSpec.ofChange packBackWrong)

/-- 'scrutineerlaw03.BallotCuts': WHATEVER THE INPUT: true; the input reads as it did. -/
def ballotCutsSpec : ChangeSpec := { name := "ballotCuts", fn := fun _ => fun
  | [d1, d2] => { results := [.lit (.bool true)], args := [d1, d2] }
  | _ => none }
def ballotCutsRow : OpenClaim := { program := "ytcmmnfeodmjpkaa", sum := "fd8026f88fa8fcc9c5cc92680fbbc3b1978d31f0fe7082a57e285cd946d85eef", func := "scrutineer/scrutineerlaw03.BallotCuts", spec := "ballotCuts", apart := false }
def BallotCutsSaid : Prop := ballotCutsRow.holds Try.pinned (OpenSpec.ofChange ballotCutsSpec)

/-- ITS FALSE NEIGHBOUR: 'it returns false'. Refute it at one input. -/
def ballotCutsWrong : ChangeSpec := { name := "ballotCuts", fn := fun _ => fun
  | [d1, d2] => { results := [.lit (.bool false)], args := [d1, d2] }
  | _ => none }
def BallotCutsWrongFalsely : Prop := ballotCutsRow.holds Try.pinned (OpenSpec.ofChange ballotCutsWrong)

/- THE SECOND FORM. 'bulk': how many values and letters a reading holds, each counted each time it is reached (what is shared counts as often as it is met; a slice's spare places count too). A statement '..UptoSaid' is the law's where the arguments, and the package variables that the reading takes, are together of bulk at most 1048576: NARROWER than '..Said'. Prove '..Said' where nothing that the law and all that it calls make is longer than what came in: it says more and counts as full. Else prove '..UptoSaid'. A law counts once. -/
mutual
def uptoBulk {H : Type} : DataW H → Nat
  | .lit (.string bytes) => bytes.length + 1
  | .lit _ => 1
  | .nil => 1
  | .ptr d => uptoBulk d + 1
  | .slice elems spare => uptoBulkAll elems + uptoBulkAll spare + 1
  | .agg parts => uptoBulkAll parts + 1
  | .iface _ d => uptoBulk d + 1
  | .map entries => uptoBulkEntries entries + 1
  | .held _ => 1
def uptoBulkAll {H : Type} : List (DataW H) → Nat
  | [] => 0
  | d :: r => uptoBulk d + uptoBulkAll r
def uptoBulkEntries {H : Type} : List (Lit × DataW H) → Nat
  | [] => 0
  | x :: r => uptoBulkEntry x + uptoBulkEntries r
def uptoBulkEntry {H : Type} : Lit × DataW H → Nat
  | (.string bytes, d) => bytes.length + uptoBulk d + 1
  | (_, d) => uptoBulk d + 1
 end
def uptoSmall : (H : Type) → List (DataW H) → Bool := fun _ ds => decide (uptoBulkAll ds ≤ 1048576)
def OpenSpec.upto (s : _root_.Go.ChangeSpec) : _root_.Go.OpenSpec := { _root_.Go.OpenSpec.ofChange s with cond := some uptoSmall }

/-- 'scrutineerlaw08.HashOf', WHERE WHAT IT READS IS OF BULK AT MOST 1048576: true; the input reads as it did. -/
def hashOfUptoRow : OpenClaim := { program := "ytcmmnfeodmjpkaa", sum := "fd8026f88fa8fcc9c5cc92680fbbc3b1978d31f0fe7082a57e285cd946d85eef", func := "scrutineer/scrutineerlaw08.HashOf", spec := "hashOf", apart := false, narrowed := true }
def HashOfUptoSaid : Prop := hashOfUptoRow.holds Try.pinned (OpenSpec.upto hashOfSpec)

/-- 'scrutineerlaw08.HashLast', WHERE WHAT IT READS IS OF BULK AT MOST 1048576: true; the input reads as it did. -/
def hashLastUptoRow : OpenClaim := { program := "ytcmmnfeodmjpkaa", sum := "fd8026f88fa8fcc9c5cc92680fbbc3b1978d31f0fe7082a57e285cd946d85eef", func := "scrutineer/scrutineerlaw08.HashLast", spec := "hashLast", apart := false, narrowed := true }
def HashLastUptoSaid : Prop := hashLastUptoRow.holds Try.pinned (OpenSpec.upto hashLastSpec)

/-- 'scrutineerlaw08.HashStirs', WHERE WHAT IT READS IS OF BULK AT MOST 1048576: true; the input reads as it did. -/
def hashStirsUptoRow : OpenClaim := { program := "ytcmmnfeodmjpkaa", sum := "fd8026f88fa8fcc9c5cc92680fbbc3b1978d31f0fe7082a57e285cd946d85eef", func := "scrutineer/scrutineerlaw08.HashStirs", spec := "hashStirs", apart := false, narrowed := true }
def HashStirsUptoSaid : Prop := hashStirsUptoRow.holds Try.pinned (OpenSpec.upto hashStirsSpec)

/-- 'scrutineerlaw01.PackPuts', WHERE WHAT IT READS IS OF BULK AT MOST 1048576: true; the input reads as it did. -/
def packPutsUptoRow : OpenClaim := { program := "ytcmmnfeodmjpkaa", sum := "fd8026f88fa8fcc9c5cc92680fbbc3b1978d31f0fe7082a57e285cd946d85eef", func := "scrutineer/scrutineerlaw01.PackPuts", spec := "packPuts", apart := false, narrowed := true }
def PackPutsUptoSaid : Prop := packPutsUptoRow.holds Try.pinned (OpenSpec.upto packPutsSpec)

/-- 'scrutineerlaw02.SumOf', WHERE WHAT IT READS IS OF BULK AT MOST 1048576: true; the input reads as it did. -/
def sumOfUptoRow : OpenClaim := { program := "ytcmmnfeodmjpkaa", sum := "fd8026f88fa8fcc9c5cc92680fbbc3b1978d31f0fe7082a57e285cd946d85eef", func := "scrutineer/scrutineerlaw02.SumOf", spec := "sumOf", apart := false, narrowed := true }
def SumOfUptoSaid : Prop := sumOfUptoRow.holds Try.pinned (OpenSpec.upto sumOfSpec)

/-- 'scrutineerlaw02.SumTurns', WHERE WHAT IT READS IS OF BULK AT MOST 1048576: true; the input reads as it did. -/
def sumTurnsUptoRow : OpenClaim := { program := "ytcmmnfeodmjpkaa", sum := "fd8026f88fa8fcc9c5cc92680fbbc3b1978d31f0fe7082a57e285cd946d85eef", func := "scrutineer/scrutineerlaw02.SumTurns", spec := "sumTurns", apart := false, narrowed := true }
def SumTurnsUptoSaid : Prop := sumTurnsUptoRow.holds Try.pinned (OpenSpec.upto sumTurnsSpec)

/-- 'scrutineerlaw03.BallotOrder', WHERE WHAT IT READS IS OF BULK AT MOST 1048576: true; the input reads as it did. -/
def ballotOrderUptoRow : OpenClaim := { program := "ytcmmnfeodmjpkaa", sum := "fd8026f88fa8fcc9c5cc92680fbbc3b1978d31f0fe7082a57e285cd946d85eef", func := "scrutineer/scrutineerlaw03.BallotOrder", spec := "ballotOrder", apart := false, narrowed := true }
def BallotOrderUptoSaid : Prop := ballotOrderUptoRow.holds Try.pinned (OpenSpec.upto ballotOrderSpec)

/-- 'scrutineerlaw03.BallotNext', WHERE WHAT IT READS IS OF BULK AT MOST 1048576: true; the input reads as it did. -/
def ballotNextUptoRow : OpenClaim := { program := "ytcmmnfeodmjpkaa", sum := "fd8026f88fa8fcc9c5cc92680fbbc3b1978d31f0fe7082a57e285cd946d85eef", func := "scrutineer/scrutineerlaw03.BallotNext", spec := "ballotNext", apart := false, narrowed := true }
def BallotNextUptoSaid : Prop := ballotNextUptoRow.holds Try.pinned (OpenSpec.upto ballotNextSpec)

/-- 'scrutineerlaw02.SumMarks', WHERE WHAT IT READS IS OF BULK AT MOST 1048576: true; the input reads as it did. -/
def sumMarksUptoRow : OpenClaim := { program := "ytcmmnfeodmjpkaa", sum := "fd8026f88fa8fcc9c5cc92680fbbc3b1978d31f0fe7082a57e285cd946d85eef", func := "scrutineer/scrutineerlaw02.SumMarks", spec := "sumMarks", apart := false, narrowed := true }
def SumMarksUptoSaid : Prop := sumMarksUptoRow.holds Try.pinned (OpenSpec.upto sumMarksSpec)

/-- 'scrutineerlaw02.SumSpoilt', WHERE WHAT IT READS IS OF BULK AT MOST 1048576: true; the input reads as it did. -/
def sumSpoiltUptoRow : OpenClaim := { program := "ytcmmnfeodmjpkaa", sum := "fd8026f88fa8fcc9c5cc92680fbbc3b1978d31f0fe7082a57e285cd946d85eef", func := "scrutineer/scrutineerlaw02.SumSpoilt", spec := "sumSpoilt", apart := false, narrowed := true }
def SumSpoiltUptoSaid : Prop := sumSpoiltUptoRow.holds Try.pinned (OpenSpec.upto sumSpoiltSpec)

/-- 'scrutineerlaw01.PackCuts', WHERE WHAT IT READS IS OF BULK AT MOST 1048576: true; the input reads as it did. -/
def packCutsUptoRow : OpenClaim := { program := "ytcmmnfeodmjpkaa", sum := "fd8026f88fa8fcc9c5cc92680fbbc3b1978d31f0fe7082a57e285cd946d85eef", func := "scrutineer/scrutineerlaw01.PackCuts", spec := "packCuts", apart := false, narrowed := true }
def PackCutsUptoSaid : Prop := packCutsUptoRow.holds Try.pinned (OpenSpec.upto packCutsSpec)

/-- 'scrutineerlaw01.PackNil', WHERE WHAT IT READS IS OF BULK AT MOST 1048576: true; the input reads as it did. -/
def packNilUptoRow : OpenClaim := { program := "ytcmmnfeodmjpkaa", sum := "fd8026f88fa8fcc9c5cc92680fbbc3b1978d31f0fe7082a57e285cd946d85eef", func := "scrutineer/scrutineerlaw01.PackNil", spec := "packNil", apart := false, narrowed := true }
def PackNilUptoSaid : Prop := packNilUptoRow.holds Try.pinned (OpenSpec.upto packNilSpec)

/-- 'scrutineerlaw01.PackBack', WHERE WHAT IT READS IS OF BULK AT MOST 1048576: true; the input reads as it did. -/
def packBackUptoRow : OpenClaim := { program := "ytcmmnfeodmjpkaa", sum := "fd8026f88fa8fcc9c5cc92680fbbc3b1978d31f0fe7082a57e285cd946d85eef", func := "scrutineer/scrutineerlaw01.PackBack", spec := "packBack", apart := false, narrowed := true }
def PackBackUptoSaid : Prop := packBackUptoRow.holds Try.pinned (OpenSpec.upto packBackSpec)

/-- 'scrutineerlaw03.BallotCuts', WHERE WHAT IT READS IS OF BULK AT MOST 1048576: true; the input reads as it did. -/
def ballotCutsUptoRow : OpenClaim := { program := "ytcmmnfeodmjpkaa", sum := "fd8026f88fa8fcc9c5cc92680fbbc3b1978d31f0fe7082a57e285cd946d85eef", func := "scrutineer/scrutineerlaw03.BallotCuts", spec := "ballotCuts", apart := false, narrowed := true }
def BallotCutsUptoSaid : Prop := ballotCutsUptoRow.holds Try.pinned (OpenSpec.upto ballotCutsSpec)

end Rows
end Go.Proofs.Ytcmmnfeodmjpkaa
