/-
  No cell of these rows narrows 'for every input' (looked for: loops, veiled, ifaces, maps, wideKeys, modest, calm, conditions, laid).
  DERIVED. THE GIVEN ROWS OF THIS SEAT. 11 by the template 'for every input the law returns true; each argument reads behind the call as it read before'; 0 by the template 'total and deterministic' (their statements: YtdpmfjbhadapiaaTotals.lean).
  GIVEN WITH THE SEED: the statements are not yours to turn. If you find one false, say at which input.
  Laid BY PROGRAM, IN A SANDBOX (cutbox-rows.mjs): the forced cells as the released guide's own fill.sh prints them over the translation db7a4cb16507502e… (all of the seat's roots in one cut). By AI agents, Wed Nov 11 2026. No macro, syntax, notation, axiom, sorry.
-/
import Derived.Test.YtdpmfjbhadapiaaChecked
import GoSem.Claim
import GoSem.ClaimJoined
import GoSem.ClaimMapViews
import Derived.JoinedTies
import Derived.KernelRfl
namespace Go.Proofs.Ytdpmfjbhadapiaa
/- THE CELL 'sum', in the pinned program and in every row, IS THE sha256 OF THE DUMP (.gsa) THAT YtdpmfjbhadapiaaProg.lean LOADS. Nothing in Lean hashes anything: it is a label: what it is worth is what the hold of that sum in a sandbox is worth. -/
noncomputable def Try.pinned : Pinned := { name := "ytdpmfjbhadapiaa", sum := "db7a4cb16507502e56a2796e7e38c086a20efa3b3a5600e84537a7b95a452b5b", checked := Try.checked }
namespace Rows
def none {H : Type} : Left H := { results := [], args := [] }

/-- 'scrutineerlaw05.TableFires': WHATEVER THE INPUT: true; the input reads as it did. -/
def tableFiresSpec : ChangeSpec := { name := "tableFires", fn := fun _ => fun
  | [d1, d2, d3, d4, d5, d6] => { results := [.lit (.bool true)], args := [d1, d2, d3, d4, d5, d6] }
  | _ => none }
def tableFiresRow : OpenClaim := { program := "ytdpmfjbhadapiaa", sum := "db7a4cb16507502e56a2796e7e38c086a20efa3b3a5600e84537a7b95a452b5b", func := "scrutineer/scrutineerlaw05.TableFires", spec := "tableFires", unfollowed := true, recurses := true, apart := false }
def TableFiresSaid : Prop := tableFiresRow.holds Try.pinned (OpenSpec.ofChange tableFiresSpec)

/-- ITS FALSE NEIGHBOUR: 'it returns false'. Refute it at one input. -/
def tableFiresWrong : ChangeSpec := { name := "tableFires", fn := fun _ => fun
  | [d1, d2, d3, d4, d5, d6] => { results := [.lit (.bool false)], args := [d1, d2, d3, d4, d5, d6] }
  | _ => none }
def TableFiresWrongFalsely : Prop := tableFiresRow.holds Try.pinned (OpenSpec.ofChange tableFiresWrong)

/-- 'scrutineerlaw05.TableFirst': WHATEVER THE INPUT: true; the input reads as it did. -/
def tableFirstSpec : ChangeSpec := { name := "tableFirst", fn := fun _ => fun
  | [d1, d2, d3, d4, d5] => { results := [.lit (.bool true)], args := [d1, d2, d3, d4, d5] }
  | _ => none }
def tableFirstRow : OpenClaim := { program := "ytdpmfjbhadapiaa", sum := "db7a4cb16507502e56a2796e7e38c086a20efa3b3a5600e84537a7b95a452b5b", func := "scrutineer/scrutineerlaw05.TableFirst", spec := "tableFirst", unfollowed := true, recurses := true, apart := false }
def TableFirstSaid : Prop := tableFirstRow.holds Try.pinned (OpenSpec.ofChange tableFirstSpec)

/-- ITS FALSE NEIGHBOUR: 'it returns false'. Refute it at one input. -/
def tableFirstWrong : ChangeSpec := { name := "tableFirst", fn := fun _ => fun
  | [d1, d2, d3, d4, d5] => { results := [.lit (.bool false)], args := [d1, d2, d3, d4, d5] }
  | _ => none }
def TableFirstWrongFalsely : Prop := tableFirstRow.holds Try.pinned (OpenSpec.ofChange tableFirstWrong)

/-- 'scrutineerlaw05.TableOthers': WHATEVER THE INPUT: true; the input reads as it did. -/
def tableOthersSpec : ChangeSpec := { name := "tableOthers", fn := fun _ => fun
  | [d1, d2, d3, d4, d5, d6, d7, d8] => { results := [.lit (.bool true)], args := [d1, d2, d3, d4, d5, d6, d7, d8] }
  | _ => none }
def tableOthersRow : OpenClaim := { program := "ytdpmfjbhadapiaa", sum := "db7a4cb16507502e56a2796e7e38c086a20efa3b3a5600e84537a7b95a452b5b", func := "scrutineer/scrutineerlaw05.TableOthers", spec := "tableOthers", unfollowed := true, recurses := true, apart := false }
def TableOthersSaid : Prop := tableOthersRow.holds Try.pinned (OpenSpec.ofChange tableOthersSpec)

/-- ITS FALSE NEIGHBOUR: 'it returns false'. Refute it at one input. -/
def tableOthersWrong : ChangeSpec := { name := "tableOthers", fn := fun _ => fun
  | [d1, d2, d3, d4, d5, d6, d7, d8] => { results := [.lit (.bool false)], args := [d1, d2, d3, d4, d5, d6, d7, d8] }
  | _ => none }
def TableOthersWrongFalsely : Prop := tableOthersRow.holds Try.pinned (OpenSpec.ofChange tableOthersWrong)

/-- 'scrutineerlaw05.TableStays': WHATEVER THE INPUT: true; the input reads as it did. -/
def tableStaysSpec : ChangeSpec := { name := "tableStays", fn := fun _ => fun
  | [d1, d2, d3, d4, d5, d6] => { results := [.lit (.bool true)], args := [d1, d2, d3, d4, d5, d6] }
  | _ => none }
def tableStaysRow : OpenClaim := { program := "ytdpmfjbhadapiaa", sum := "db7a4cb16507502e56a2796e7e38c086a20efa3b3a5600e84537a7b95a452b5b", func := "scrutineer/scrutineerlaw05.TableStays", spec := "tableStays", unfollowed := true, recurses := true, apart := false }
def TableStaysSaid : Prop := tableStaysRow.holds Try.pinned (OpenSpec.ofChange tableStaysSpec)

/-- ITS FALSE NEIGHBOUR: 'it returns false'. Refute it at one input. -/
def tableStaysWrong : ChangeSpec := { name := "tableStays", fn := fun _ => fun
  | [d1, d2, d3, d4, d5, d6] => { results := [.lit (.bool false)], args := [d1, d2, d3, d4, d5, d6] }
  | _ => none }
def TableStaysWrongFalsely : Prop := tableStaysRow.holds Try.pinned (OpenSpec.ofChange tableStaysWrong)

/-- 'scrutineerlaw07.EngineTwice': WHATEVER THE INPUT: true; the input reads as it did. -/
def engineTwiceSpec : ChangeSpec := { name := "engineTwice", fn := fun _ => fun
  | [d1, d2, d3, d4, d5] => { results := [.lit (.bool true)], args := [d1, d2, d3, d4, d5] }
  | _ => none }
def engineTwiceRow : OpenClaim := { program := "ytdpmfjbhadapiaa", sum := "db7a4cb16507502e56a2796e7e38c086a20efa3b3a5600e84537a7b95a452b5b", func := "scrutineer/scrutineerlaw07.EngineTwice", spec := "engineTwice", inPlace := ["slices.overlaps[scrutineer/api.Mark]", "slices.overlaps[scrutineer/api.Done]"], unfollowed := true, recurses := true, apart := false }
def EngineTwiceSaid : Prop := engineTwiceRow.holds Try.pinned (OpenSpec.ofChange engineTwiceSpec)

/-- ITS FALSE NEIGHBOUR: 'it returns false'. Refute it at one input. -/
def engineTwiceWrong : ChangeSpec := { name := "engineTwice", fn := fun _ => fun
  | [d1, d2, d3, d4, d5] => { results := [.lit (.bool false)], args := [d1, d2, d3, d4, d5] }
  | _ => none }
def EngineTwiceWrongFalsely : Prop := engineTwiceRow.holds Try.pinned (OpenSpec.ofChange engineTwiceWrong)

/-- 'scrutineerlaw07.EngineOnce': WHATEVER THE INPUT: true; the input reads as it did. -/
def engineOnceSpec : ChangeSpec := { name := "engineOnce", fn := fun _ => fun
  | [d1, d2, d3, d4, d5] => { results := [.lit (.bool true)], args := [d1, d2, d3, d4, d5] }
  | _ => none }
def engineOnceRow : OpenClaim := { program := "ytdpmfjbhadapiaa", sum := "db7a4cb16507502e56a2796e7e38c086a20efa3b3a5600e84537a7b95a452b5b", func := "scrutineer/scrutineerlaw07.EngineOnce", spec := "engineOnce", inPlace := ["slices.overlaps[scrutineer/api.Mark]", "slices.overlaps[scrutineer/api.Done]"], unfollowed := true, recurses := true, apart := false }
def EngineOnceSaid : Prop := engineOnceRow.holds Try.pinned (OpenSpec.ofChange engineOnceSpec)

/-- ITS FALSE NEIGHBOUR: 'it returns false'. Refute it at one input. -/
def engineOnceWrong : ChangeSpec := { name := "engineOnce", fn := fun _ => fun
  | [d1, d2, d3, d4, d5] => { results := [.lit (.bool false)], args := [d1, d2, d3, d4, d5] }
  | _ => none }
def EngineOnceWrongFalsely : Prop := engineOnceRow.holds Try.pinned (OpenSpec.ofChange engineOnceWrong)

/-- 'scrutineerlaw07.EngineCells': WHATEVER THE INPUT: true; the input reads as it did. -/
def engineCellsSpec : ChangeSpec := { name := "engineCells", fn := fun _ => fun
  | [d1, d2, d3, d4] => { results := [.lit (.bool true)], args := [d1, d2, d3, d4] }
  | _ => none }
def engineCellsRow : OpenClaim := { program := "ytdpmfjbhadapiaa", sum := "db7a4cb16507502e56a2796e7e38c086a20efa3b3a5600e84537a7b95a452b5b", func := "scrutineer/scrutineerlaw07.EngineCells", spec := "engineCells", inPlace := ["slices.overlaps[scrutineer/api.Mark]", "slices.overlaps[scrutineer/api.Done]"], unfollowed := true, recurses := true, apart := false }
def EngineCellsSaid : Prop := engineCellsRow.holds Try.pinned (OpenSpec.ofChange engineCellsSpec)

/-- ITS FALSE NEIGHBOUR: 'it returns false'. Refute it at one input. -/
def engineCellsWrong : ChangeSpec := { name := "engineCells", fn := fun _ => fun
  | [d1, d2, d3, d4] => { results := [.lit (.bool false)], args := [d1, d2, d3, d4] }
  | _ => none }
def EngineCellsWrongFalsely : Prop := engineCellsRow.holds Try.pinned (OpenSpec.ofChange engineCellsWrong)

/-- 'scrutineerlaw07.EngineReads': WHATEVER THE INPUT: true; the input reads as it did. -/
def engineReadsSpec : ChangeSpec := { name := "engineReads", fn := fun _ => fun
  | [d1, d2, d3, d4] => { results := [.lit (.bool true)], args := [d1, d2, d3, d4] }
  | _ => none }
def engineReadsRow : OpenClaim := { program := "ytdpmfjbhadapiaa", sum := "db7a4cb16507502e56a2796e7e38c086a20efa3b3a5600e84537a7b95a452b5b", func := "scrutineer/scrutineerlaw07.EngineReads", spec := "engineReads", inPlace := ["slices.overlaps[scrutineer/api.Mark]", "slices.overlaps[scrutineer/api.Done]"], unfollowed := true, recurses := true, apart := false }
def EngineReadsSaid : Prop := engineReadsRow.holds Try.pinned (OpenSpec.ofChange engineReadsSpec)

/-- ITS FALSE NEIGHBOUR: 'it returns false'. Refute it at one input. -/
def engineReadsWrong : ChangeSpec := { name := "engineReads", fn := fun _ => fun
  | [d1, d2, d3, d4] => { results := [.lit (.bool false)], args := [d1, d2, d3, d4] }
  | _ => none }
def EngineReadsWrongFalsely : Prop := engineReadsRow.holds Try.pinned (OpenSpec.ofChange engineReadsWrong)

/-- 'scrutineerlaw07.EngineAbsent': WHATEVER THE INPUT: true; the input reads as it did. -/
def engineAbsentSpec : ChangeSpec := { name := "engineAbsent", fn := fun _ => fun
  | [d1, d2, d3] => { results := [.lit (.bool true)], args := [d1, d2, d3] }
  | _ => none }
def engineAbsentRow : OpenClaim := { program := "ytdpmfjbhadapiaa", sum := "db7a4cb16507502e56a2796e7e38c086a20efa3b3a5600e84537a7b95a452b5b", func := "scrutineer/scrutineerlaw07.EngineAbsent", spec := "engineAbsent", inPlace := ["slices.overlaps[scrutineer/api.Mark]", "slices.overlaps[scrutineer/api.Done]"], unfollowed := true, recurses := true, apart := false }
def EngineAbsentSaid : Prop := engineAbsentRow.holds Try.pinned (OpenSpec.ofChange engineAbsentSpec)

/-- ITS FALSE NEIGHBOUR: 'it returns false'. Refute it at one input. -/
def engineAbsentWrong : ChangeSpec := { name := "engineAbsent", fn := fun _ => fun
  | [d1, d2, d3] => { results := [.lit (.bool false)], args := [d1, d2, d3] }
  | _ => none }
def EngineAbsentWrongFalsely : Prop := engineAbsentRow.holds Try.pinned (OpenSpec.ofChange engineAbsentWrong)

/-- 'scrutineerlaw07.EngineGone': WHATEVER THE INPUT: true; the input reads as it did. -/
def engineGoneSpec : ChangeSpec := { name := "engineGone", fn := fun _ => fun
  | [d1, d2, d3, d4, d5] => { results := [.lit (.bool true)], args := [d1, d2, d3, d4, d5] }
  | _ => none }
def engineGoneRow : OpenClaim := { program := "ytdpmfjbhadapiaa", sum := "db7a4cb16507502e56a2796e7e38c086a20efa3b3a5600e84537a7b95a452b5b", func := "scrutineer/scrutineerlaw07.EngineGone", spec := "engineGone", inPlace := ["slices.overlaps[scrutineer/api.Mark]", "slices.overlaps[scrutineer/api.Done]"], unfollowed := true, recurses := true, apart := false }
def EngineGoneSaid : Prop := engineGoneRow.holds Try.pinned (OpenSpec.ofChange engineGoneSpec)

/-- ITS FALSE NEIGHBOUR: 'it returns false'. Refute it at one input. -/
def engineGoneWrong : ChangeSpec := { name := "engineGone", fn := fun _ => fun
  | [d1, d2, d3, d4, d5] => { results := [.lit (.bool false)], args := [d1, d2, d3, d4, d5] }
  | _ => none }
def EngineGoneWrongFalsely : Prop := engineGoneRow.holds Try.pinned (OpenSpec.ofChange engineGoneWrong)

/-- 'scrutineerlaw07.EngineMay': WHATEVER THE INPUT: true; the input reads as it did. -/
def engineMaySpec : ChangeSpec := { name := "engineMay", fn := fun _ => fun
  | [d1, d2, d3, d4, d5] => { results := [.lit (.bool true)], args := [d1, d2, d3, d4, d5] }
  | _ => none }
def engineMayRow : OpenClaim := { program := "ytdpmfjbhadapiaa", sum := "db7a4cb16507502e56a2796e7e38c086a20efa3b3a5600e84537a7b95a452b5b", func := "scrutineer/scrutineerlaw07.EngineMay", spec := "engineMay", inPlace := ["slices.overlaps[scrutineer/api.Mark]", "slices.overlaps[scrutineer/api.Done]"], unfollowed := true, recurses := true, apart := false }
def EngineMaySaid : Prop := engineMayRow.holds Try.pinned (OpenSpec.ofChange engineMaySpec)

/-- ITS FALSE NEIGHBOUR: 'it returns false'. Refute it at one input. -/
def engineMayWrong : ChangeSpec := { name := "engineMay", fn := fun _ => fun
  | [d1, d2, d3, d4, d5] => { results := [.lit (.bool false)], args := [d1, d2, d3, d4, d5] }
  | _ => none }
def EngineMayWrongFalsely : Prop := engineMayRow.holds Try.pinned (OpenSpec.ofChange engineMayWrong)

/- THE SECOND FORM. 'bulk': how many values and letters a reading holds, each counted each time it is reached (what is shared counts as often as it is met; a slice's spare places count too). A statement '..UptoSaid' is the law's where the arguments, and the package variables that the reading takes, are together of bulk at most 1048576: NARROWER than '..Said'. Prove '..Said' where nothing that the law and all that it calls make is longer than what came in: it says more and counts as full. Else prove '..UptoSaid'. A law counts once. -/
mutual
def uptoBulk {H : Type} : DataW H → Nat
  | .lit (.string bytes) => bytes.length + 1
  | .lit _ => 1
  | .nil => 1
  | .ptr d => uptoBulk d + 1
  | .slice elems spare => uptoBulkAll elems + uptoBulkAll spare + 1
  | .agg parts => uptoBulkAll parts + 1
  | .iface _ d => uptoBulk d + 1
  | .map entries => uptoBulkEntries entries + 1
  | .held _ => 1
def uptoBulkAll {H : Type} : List (DataW H) → Nat
  | [] => 0
  | d :: r => uptoBulk d + uptoBulkAll r
def uptoBulkEntries {H : Type} : List (Lit × DataW H) → Nat
  | [] => 0
  | x :: r => uptoBulkEntry x + uptoBulkEntries r
def uptoBulkEntry {H : Type} : Lit × DataW H → Nat
  | (.string bytes, d) => bytes.length + uptoBulk d + 1
  | (_, d) => uptoBulk d + 1
 end
def uptoSmall : (H : Type) → List (DataW H) → Bool := fun _ ds => decide (uptoBulkAll ds ≤ 1048576)
def OpenSpec.upto (s : _root_.Go.ChangeSpec) : _root_.Go.OpenSpec := { _root_.Go.OpenSpec.ofChange s with cond := some uptoSmall }

/-- 'scrutineerlaw05.TableFires', WHERE WHAT IT READS IS OF BULK AT MOST 1048576: true; the input reads as it did. -/
def tableFiresUptoRow : OpenClaim := { program := "ytdpmfjbhadapiaa", sum := "db7a4cb16507502e56a2796e7e38c086a20efa3b3a5600e84537a7b95a452b5b", func := "scrutineer/scrutineerlaw05.TableFires", spec := "tableFires", unfollowed := true, recurses := true, apart := false, narrowed := true }
def TableFiresUptoSaid : Prop := tableFiresUptoRow.holds Try.pinned (OpenSpec.upto tableFiresSpec)

/-- 'scrutineerlaw05.TableFirst', WHERE WHAT IT READS IS OF BULK AT MOST 1048576: true; the input reads as it did. -/
def tableFirstUptoRow : OpenClaim := { program := "ytdpmfjbhadapiaa", sum := "db7a4cb16507502e56a2796e7e38c086a20efa3b3a5600e84537a7b95a452b5b", func := "scrutineer/scrutineerlaw05.TableFirst", spec := "tableFirst", unfollowed := true, recurses := true, apart := false, narrowed := true }
def TableFirstUptoSaid : Prop := tableFirstUptoRow.holds Try.pinned (OpenSpec.upto tableFirstSpec)

/-- 'scrutineerlaw05.TableOthers', WHERE WHAT IT READS IS OF BULK AT MOST 1048576: true; the input reads as it did. -/
def tableOthersUptoRow : OpenClaim := { program := "ytdpmfjbhadapiaa", sum := "db7a4cb16507502e56a2796e7e38c086a20efa3b3a5600e84537a7b95a452b5b", func := "scrutineer/scrutineerlaw05.TableOthers", spec := "tableOthers", unfollowed := true, recurses := true, apart := false, narrowed := true }
def TableOthersUptoSaid : Prop := tableOthersUptoRow.holds Try.pinned (OpenSpec.upto tableOthersSpec)

/-- 'scrutineerlaw05.TableStays', WHERE WHAT IT READS IS OF BULK AT MOST 1048576: true; the input reads as it did. -/
def tableStaysUptoRow : OpenClaim := { program := "ytdpmfjbhadapiaa", sum := "db7a4cb16507502e56a2796e7e38c086a20efa3b3a5600e84537a7b95a452b5b", func := "scrutineer/scrutineerlaw05.TableStays", spec := "tableStays", unfollowed := true, recurses := true, apart := false, narrowed := true }
def TableStaysUptoSaid : Prop := tableStaysUptoRow.holds Try.pinned (OpenSpec.upto tableStaysSpec)

/-- 'scrutineerlaw07.EngineTwice', WHERE WHAT IT READS IS OF BULK AT MOST 1048576: true; the input reads as it did. -/
def engineTwiceUptoRow : OpenClaim := { program := "ytdpmfjbhadapiaa", sum := "db7a4cb16507502e56a2796e7e38c086a20efa3b3a5600e84537a7b95a452b5b", func := "scrutineer/scrutineerlaw07.EngineTwice", spec := "engineTwice", inPlace := ["slices.overlaps[scrutineer/api.Mark]", "slices.overlaps[scrutineer/api.Done]"], unfollowed := true, recurses := true, apart := false, narrowed := true }
def EngineTwiceUptoSaid : Prop := engineTwiceUptoRow.holds Try.pinned (OpenSpec.upto engineTwiceSpec)

/-- 'scrutineerlaw07.EngineOnce', WHERE WHAT IT READS IS OF BULK AT MOST 1048576: true; the input reads as it did. -/
def engineOnceUptoRow : OpenClaim := { program := "ytdpmfjbhadapiaa", sum := "db7a4cb16507502e56a2796e7e38c086a20efa3b3a5600e84537a7b95a452b5b", func := "scrutineer/scrutineerlaw07.EngineOnce", spec := "engineOnce", inPlace := ["slices.overlaps[scrutineer/api.Mark]", "slices.overlaps[scrutineer/api.Done]"], unfollowed := true, recurses := true, apart := false, narrowed := true }
def EngineOnceUptoSaid : Prop := engineOnceUptoRow.holds Try.pinned (OpenSpec.upto engineOnceSpec)

/-- 'scrutineerlaw07.EngineCells', WHERE WHAT IT READS IS OF BULK AT MOST 1048576: true; the input reads as it did. -/
def engineCellsUptoRow : OpenClaim := { program := "ytdpmfjbhadapiaa", sum := "db7a4cb16507502e56a2796e7e38c086a20efa3b3a5600e84537a7b95a452b5b", func := "scrutineer/scrutineerlaw07.EngineCells", spec := "engineCells", inPlace := ["slices.overlaps[scrutineer/api.Mark]", "slices.overlaps[scrutineer/api.Done]"], unfollowed := true, recurses := true, apart := false, narrowed := true }
def EngineCellsUptoSaid : Prop := engineCellsUptoRow.holds Try.pinned (OpenSpec.upto engineCellsSpec)

/-- 'scrutineerlaw07.EngineReads', WHERE WHAT IT READS IS OF BULK AT MOST 1048576: true; the input reads as it did. -/
def engineReadsUptoRow : OpenClaim := { program := "ytdpmfjbhadapiaa", sum := "db7a4cb16507502e56a2796e7e38c086a20efa3b3a5600e84537a7b95a452b5b", func := "scrutineer/scrutineerlaw07.EngineReads", spec := "engineReads", inPlace := ["slices.overlaps[scrutineer/api.Mark]", "slices.overlaps[scrutineer/api.Done]"], unfollowed := true, recurses := true, apart := false, narrowed := true }
def EngineReadsUptoSaid : Prop := engineReadsUptoRow.holds Try.pinned (OpenSpec.upto engineReadsSpec)

/-- 'scrutineerlaw07.EngineAbsent', WHERE WHAT IT READS IS OF BULK AT MOST 1048576: true; the input reads as it did. -/
def engineAbsentUptoRow : OpenClaim := { program := "ytdpmfjbhadapiaa", sum := "db7a4cb16507502e56a2796e7e38c086a20efa3b3a5600e84537a7b95a452b5b", func := "scrutineer/scrutineerlaw07.EngineAbsent", spec := "engineAbsent", inPlace := ["slices.overlaps[scrutineer/api.Mark]", "slices.overlaps[scrutineer/api.Done]"], unfollowed := true, recurses := true, apart := false, narrowed := true }
def EngineAbsentUptoSaid : Prop := engineAbsentUptoRow.holds Try.pinned (OpenSpec.upto engineAbsentSpec)

/-- 'scrutineerlaw07.EngineGone', WHERE WHAT IT READS IS OF BULK AT MOST 1048576: true; the input reads as it did. -/
def engineGoneUptoRow : OpenClaim := { program := "ytdpmfjbhadapiaa", sum := "db7a4cb16507502e56a2796e7e38c086a20efa3b3a5600e84537a7b95a452b5b", func := "scrutineer/scrutineerlaw07.EngineGone", spec := "engineGone", inPlace := ["slices.overlaps[scrutineer/api.Mark]", "slices.overlaps[scrutineer/api.Done]"], unfollowed := true, recurses := true, apart := false, narrowed := true }
def EngineGoneUptoSaid : Prop := engineGoneUptoRow.holds Try.pinned (OpenSpec.upto engineGoneSpec)

/-- 'scrutineerlaw07.EngineMay', WHERE WHAT IT READS IS OF BULK AT MOST 1048576: true; the input reads as it did. -/
def engineMayUptoRow : OpenClaim := { program := "ytdpmfjbhadapiaa", sum := "db7a4cb16507502e56a2796e7e38c086a20efa3b3a5600e84537a7b95a452b5b", func := "scrutineer/scrutineerlaw07.EngineMay", spec := "engineMay", inPlace := ["slices.overlaps[scrutineer/api.Mark]", "slices.overlaps[scrutineer/api.Done]"], unfollowed := true, recurses := true, apart := false, narrowed := true }
def EngineMayUptoSaid : Prop := engineMayUptoRow.holds Try.pinned (OpenSpec.upto engineMaySpec)

end Rows
end Go.Proofs.Ytdpmfjbhadapiaa
