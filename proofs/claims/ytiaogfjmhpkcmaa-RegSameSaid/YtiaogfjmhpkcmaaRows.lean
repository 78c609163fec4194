/-
  No cell of these rows narrows 'for every input' (looked for: loops, veiled, ifaces, maps, wideKeys, modest, calm, conditions, laid).
  DERIVED. THE GIVEN ROWS OF THIS SEAT. 7 by the template 'for every input the law returns true; each argument reads behind the call as it read before'; 0 by the template 'total and deterministic' (their statements: YtiaogfjmhpkcmaaTotals.lean).
  GIVEN WITH THE SEED: the statements are not yours to turn. If you find one false, say at which input.
  Laid BY PROGRAM, IN A SANDBOX (cutbox-rows.mjs): the forced cells as the released guide's own fill.sh prints them over the translation 7c391904fe3cfa24… (all of the seat's roots in one cut). By AI agents, Wed Nov 11 2026. No macro, syntax, notation, axiom, sorry.
-/
import Derived.Test.YtiaogfjmhpkcmaaChecked
import GoSem.Claim
import GoSem.ClaimJoined
import GoSem.ClaimMapViews
import Derived.JoinedTies
import Derived.KernelRfl
namespace Go.Proofs.Ytiaogfjmhpkcmaa
/- THE CELL 'sum', in the pinned program and in every row, IS THE sha256 OF THE DUMP (.gsa) THAT YtiaogfjmhpkcmaaProg.lean LOADS. Nothing in Lean hashes anything: it is a label: what it is worth is what the hold of that sum in a sandbox is worth. -/
noncomputable def Try.pinned : Pinned := { name := "ytiaogfjmhpkcmaa", sum := "7c391904fe3cfa249042aaf3038a56b6a224c41192aee1dbda3a9eac0a77315d", checked := Try.checked }
namespace Rows
def none {H : Type} : Left H := { results := [], args := [] }

/-- 'scrutineerlaw22.EraseBlocks': WHATEVER THE INPUT: true; the input reads as it did. -/
def eraseBlocksSpec : ChangeSpec := { name := "eraseBlocks", fn := fun _ => fun
  | [d1, d2, d3] => { results := [.lit (.bool true)], args := [d1, d2, d3] }
  | _ => none }
def eraseBlocksRow : OpenClaim := { program := "ytiaogfjmhpkcmaa", sum := "7c391904fe3cfa249042aaf3038a56b6a224c41192aee1dbda3a9eac0a77315d", func := "scrutineer/scrutineerlaw22.EraseBlocks", spec := "eraseBlocks", unfollowed := true, recurses := true, apart := false }
def EraseBlocksSaid : Prop := eraseBlocksRow.holds Try.pinned (OpenSpec.ofChange eraseBlocksSpec)

/-- ITS FALSE NEIGHBOUR: 'it returns false'. Refute it at one input. -/
def eraseBlocksWrong : ChangeSpec := { name := "eraseBlocks", fn := fun _ => fun
  | [d1, d2, d3] => { results := [.lit (.bool false)], args := [d1, d2, d3] }
  | _ => none }
def EraseBlocksWrongFalsely : Prop := eraseBlocksRow.holds Try.pinned (OpenSpec.ofChange eraseBlocksWrong)

/-- 'scrutineerlaw22.EraseStops': WHATEVER THE INPUT: true; the input reads as it did. -/
def eraseStopsSpec : ChangeSpec := { name := "eraseStops", fn := fun _ => fun
  | [d1, d2] => { results := [.lit (.bool true)], args := [d1, d2] }
  | _ => none }
def eraseStopsRow : OpenClaim := { program := "ytiaogfjmhpkcmaa", sum := "7c391904fe3cfa249042aaf3038a56b6a224c41192aee1dbda3a9eac0a77315d", func := "scrutineer/scrutineerlaw22.EraseStops", spec := "eraseStops", unfollowed := true, recurses := true, apart := false }
def EraseStopsSaid : Prop := eraseStopsRow.holds Try.pinned (OpenSpec.ofChange eraseStopsSpec)

/-- ITS FALSE NEIGHBOUR: 'it returns false'. Refute it at one input. -/
def eraseStopsWrong : ChangeSpec := { name := "eraseStops", fn := fun _ => fun
  | [d1, d2] => { results := [.lit (.bool false)], args := [d1, d2] }
  | _ => none }
def EraseStopsWrongFalsely : Prop := eraseStopsRow.holds Try.pinned (OpenSpec.ofChange eraseStopsWrong)

/-- 'scrutineerlaw22.ErasePlays': WHATEVER THE INPUT: true; the input reads as it did. -/
def erasePlaysSpec : ChangeSpec := { name := "erasePlays", fn := fun _ => fun
  | [d1, d2, d3] => { results := [.lit (.bool true)], args := [d1, d2, d3] }
  | _ => none }
def erasePlaysRow : OpenClaim := { program := "ytiaogfjmhpkcmaa", sum := "7c391904fe3cfa249042aaf3038a56b6a224c41192aee1dbda3a9eac0a77315d", func := "scrutineer/scrutineerlaw22.ErasePlays", spec := "erasePlays", unfollowed := true, recurses := true, apart := false }
def ErasePlaysSaid : Prop := erasePlaysRow.holds Try.pinned (OpenSpec.ofChange erasePlaysSpec)

/-- ITS FALSE NEIGHBOUR: 'it returns false'. Refute it at one input. -/
def erasePlaysWrong : ChangeSpec := { name := "erasePlays", fn := fun _ => fun
  | [d1, d2, d3] => { results := [.lit (.bool false)], args := [d1, d2, d3] }
  | _ => none }
def ErasePlaysWrongFalsely : Prop := erasePlaysRow.holds Try.pinned (OpenSpec.ofChange erasePlaysWrong)

/-- 'scrutineerlaw22.EraseEnds': WHATEVER THE INPUT: true; the input reads as it did. -/
def eraseEndsSpec : ChangeSpec := { name := "eraseEnds", fn := fun _ => fun
  | [d1, d2, d3, d4, d5] => { results := [.lit (.bool true)], args := [d1, d2, d3, d4, d5] }
  | _ => none }
def eraseEndsRow : OpenClaim := { program := "ytiaogfjmhpkcmaa", sum := "7c391904fe3cfa249042aaf3038a56b6a224c41192aee1dbda3a9eac0a77315d", func := "scrutineer/scrutineerlaw22.EraseEnds", spec := "eraseEnds", unfollowed := true, recurses := true, apart := false }
def EraseEndsSaid : Prop := eraseEndsRow.holds Try.pinned (OpenSpec.ofChange eraseEndsSpec)

/-- ITS FALSE NEIGHBOUR: 'it returns false'. Refute it at one input. -/
def eraseEndsWrong : ChangeSpec := { name := "eraseEnds", fn := fun _ => fun
  | [d1, d2, d3, d4, d5] => { results := [.lit (.bool false)], args := [d1, d2, d3, d4, d5] }
  | _ => none }
def EraseEndsWrongFalsely : Prop := eraseEndsRow.holds Try.pinned (OpenSpec.ofChange eraseEndsWrong)

/-- 'scrutineerlaw06.RegSame': WHATEVER THE INPUT: true; the input reads as it did. -/
def regSameSpec : ChangeSpec := { name := "regSame", fn := fun _ => fun
  | [d1, d2, d3, d4] => { results := [.lit (.bool true)], args := [d1, d2, d3, d4] }
  | _ => none }
def regSameRow : OpenClaim := { program := "ytiaogfjmhpkcmaa", sum := "7c391904fe3cfa249042aaf3038a56b6a224c41192aee1dbda3a9eac0a77315d", func := "scrutineer/scrutineerlaw06.RegSame", spec := "regSame", unfollowed := true, recurses := true, apart := false }
def RegSameSaid : Prop := regSameRow.holds Try.pinned (OpenSpec.ofChange regSameSpec)

/-- ITS FALSE NEIGHBOUR: 'it returns false'. Refute it at one input. -/
def regSameWrong : ChangeSpec := { name := "regSame", fn := fun _ => fun
  | [d1, d2, d3, d4] => { results := [.lit (.bool false)], args := [d1, d2, d3, d4] }
  | _ => none }
def RegSameWrongFalsely : Prop := regSameRow.holds Try.pinned (OpenSpec.ofChange regSameWrong)

/-- 'scrutineerlaw06.RegWrites': WHATEVER THE INPUT: true; the input reads as it did. -/
def regWritesSpec : ChangeSpec := { name := "regWrites", fn := fun _ => fun
  | [d1, d2] => { results := [.lit (.bool true)], args := [d1, d2] }
  | _ => none }
def regWritesRow : OpenClaim := { program := "ytiaogfjmhpkcmaa", sum := "7c391904fe3cfa249042aaf3038a56b6a224c41192aee1dbda3a9eac0a77315d", func := "scrutineer/scrutineerlaw06.RegWrites", spec := "regWrites", unfollowed := true, recurses := true, apart := false }
def RegWritesSaid : Prop := regWritesRow.holds Try.pinned (OpenSpec.ofChange regWritesSpec)

/-- ITS FALSE NEIGHBOUR: 'it returns false'. Refute it at one input. -/
def regWritesWrong : ChangeSpec := { name := "regWrites", fn := fun _ => fun
  | [d1, d2] => { results := [.lit (.bool false)], args := [d1, d2] }
  | _ => none }
def RegWritesWrongFalsely : Prop := regWritesRow.holds Try.pinned (OpenSpec.ofChange regWritesWrong)

/-- 'scrutineerlaw06.RegCuts': WHATEVER THE INPUT: true; the input reads as it did. -/
def regCutsSpec : ChangeSpec := { name := "regCuts", fn := fun _ => fun
  | [d1, d2] => { results := [.lit (.bool true)], args := [d1, d2] }
  | _ => none }
def regCutsRow : OpenClaim := { program := "ytiaogfjmhpkcmaa", sum := "7c391904fe3cfa249042aaf3038a56b6a224c41192aee1dbda3a9eac0a77315d", func := "scrutineer/scrutineerlaw06.RegCuts", spec := "regCuts", unfollowed := true, recurses := true, apart := false }
def RegCutsSaid : Prop := regCutsRow.holds Try.pinned (OpenSpec.ofChange regCutsSpec)

/-- ITS FALSE NEIGHBOUR: 'it returns false'. Refute it at one input. -/
def regCutsWrong : ChangeSpec := { name := "regCuts", fn := fun _ => fun
  | [d1, d2] => { results := [.lit (.bool false)], args := [d1, d2] }
  | _ => none }
def RegCutsWrongFalsely : Prop := regCutsRow.holds Try.pinned (OpenSpec.ofChange regCutsWrong)

/- THE SECOND FORM. 'bulk': how many values and letters a reading holds, each counted each time it is reached (what is shared counts as often as it is met; a slice's spare places count too). A statement '..UptoSaid' is the law's where the arguments, and the package variables that the reading takes, are together of bulk at most 1048576: NARROWER than '..Said'. Prove '..Said' where nothing that the law and all that it calls make is longer than what came in: it says more and counts as full. Else prove '..UptoSaid'. A law counts once. -/
mutual
def uptoBulk {H : Type} : DataW H → Nat
  | .lit (.string bytes) => bytes.length + 1
  | .lit _ => 1
  | .nil => 1
  | .ptr d => uptoBulk d + 1
  | .slice elems spare => uptoBulkAll elems + uptoBulkAll spare + 1
  | .agg parts => uptoBulkAll parts + 1
  | .iface _ d => uptoBulk d + 1
  | .map entries => uptoBulkEntries entries + 1
  | .held _ => 1
def uptoBulkAll {H : Type} : List (DataW H) → Nat
  | [] => 0
  | d :: r => uptoBulk d + uptoBulkAll r
def uptoBulkEntries {H : Type} : List (Lit × DataW H) → Nat
  | [] => 0
  | x :: r => uptoBulkEntry x + uptoBulkEntries r
def uptoBulkEntry {H : Type} : Lit × DataW H → Nat
  | (.string bytes, d) => bytes.length + uptoBulk d + 1
  | (_, d) => uptoBulk d + 1
 end
def uptoSmall : (H : Type) → List (DataW H) → Bool := fun _ ds => decide (uptoBulkAll ds ≤ 1048576)
def OpenSpec.upto (s : _root_.Go.ChangeSpec) : _root_.Go.OpenSpec := { _root_.Go.OpenSpec.ofChange s with cond := some uptoSmall }

/-- 'scrutineerlaw22.EraseBlocks', WHERE WHAT IT READS IS OF BULK AT MOST 1048576: true; the input reads as it did. -/
def eraseBlocksUptoRow : OpenClaim := { program := "ytiaogfjmhpkcmaa", sum := "7c391904fe3cfa249042aaf3038a56b6a224c41192aee1dbda3a9eac0a77315d", func := "scrutineer/scrutineerlaw22.EraseBlocks", spec := "eraseBlocks", unfollowed := true, recurses := true, apart := false, narrowed := true }
def EraseBlocksUptoSaid : Prop := eraseBlocksUptoRow.holds Try.pinned (OpenSpec.upto eraseBlocksSpec)

/-- 'scrutineerlaw22.EraseStops', WHERE WHAT IT READS IS OF BULK AT MOST 1048576: true; the input reads as it did. -/
def eraseStopsUptoRow : OpenClaim := { program := "ytiaogfjmhpkcmaa", sum := "7c391904fe3cfa249042aaf3038a56b6a224c41192aee1dbda3a9eac0a77315d", func := "scrutineer/scrutineerlaw22.EraseStops", spec := "eraseStops", unfollowed := true, recurses := true, apart := false, narrowed := true }
def EraseStopsUptoSaid : Prop := eraseStopsUptoRow.holds Try.pinned (OpenSpec.upto eraseStopsSpec)

/-- 'scrutineerlaw22.ErasePlays', WHERE WHAT IT READS IS OF BULK AT MOST 1048576: true; the input reads as it did. -/
def erasePlaysUptoRow : OpenClaim := { program := "ytiaogfjmhpkcmaa", sum := "7c391904fe3cfa249042aaf3038a56b6a224c41192aee1dbda3a9eac0a77315d", func := "scrutineer/scrutineerlaw22.ErasePlays", spec := "erasePlays", unfollowed := true, recurses := true, apart := false, narrowed := true }
def ErasePlaysUptoSaid : Prop := erasePlaysUptoRow.holds Try.pinned (OpenSpec.upto erasePlaysSpec)

/-- 'scrutineerlaw22.EraseEnds', WHERE WHAT IT READS IS OF BULK AT MOST 1048576: true; the input reads as it did. -/
def eraseEndsUptoRow : OpenClaim := { program := "ytiaogfjmhpkcmaa", sum := "7c391904fe3cfa249042aaf3038a56b6a224c41192aee1dbda3a9eac0a77315d", func := "scrutineer/scrutineerlaw22.EraseEnds", spec := "eraseEnds", unfollowed := true, recurses := true, apart := false, narrowed := true }
def EraseEndsUptoSaid : Prop := eraseEndsUptoRow.holds Try.pinned (OpenSpec.upto eraseEndsSpec)

/-- 'scrutineerlaw06.RegSame', WHERE WHAT IT READS IS OF BULK AT MOST 1048576: true; the input reads as it did. -/
def regSameUptoRow : OpenClaim := { program := "ytiaogfjmhpkcmaa", sum := "7c391904fe3cfa249042aaf3038a56b6a224c41192aee1dbda3a9eac0a77315d", func := "scrutineer/scrutineerlaw06.RegSame", spec := "regSame", unfollowed := true, recurses := true, apart := false, narrowed := true }
def RegSameUptoSaid : Prop := regSameUptoRow.holds Try.pinned (OpenSpec.upto regSameSpec)

/-- 'scrutineerlaw06.RegWrites', WHERE WHAT IT READS IS OF BULK AT MOST 1048576: true; the input reads as it did. -/
def regWritesUptoRow : OpenClaim := { program := "ytiaogfjmhpkcmaa", sum := "7c391904fe3cfa249042aaf3038a56b6a224c41192aee1dbda3a9eac0a77315d", func := "scrutineer/scrutineerlaw06.RegWrites", spec := "regWrites", unfollowed := true, recurses := true, apart := false, narrowed := true }
def RegWritesUptoSaid : Prop := regWritesUptoRow.holds Try.pinned (OpenSpec.upto regWritesSpec)

/-- 'scrutineerlaw06.RegCuts', WHERE WHAT IT READS IS OF BULK AT MOST 1048576: true; the input reads as it did. -/
def regCutsUptoRow : OpenClaim := { program := "ytiaogfjmhpkcmaa", sum := "7c391904fe3cfa249042aaf3038a56b6a224c41192aee1dbda3a9eac0a77315d", func := "scrutineer/scrutineerlaw06.RegCuts", spec := "regCuts", unfollowed := true, recurses := true, apart := false, narrowed := true }
def RegCutsUptoSaid : Prop := regCutsUptoRow.holds Try.pinned (OpenSpec.upto regCutsSpec)

end Rows
end Go.Proofs.Ytiaogfjmhpkcmaa
