/-
  No cell of these rows narrows 'for every input' (looked for: loops, veiled, ifaces, maps, wideKeys, modest, calm, conditions, laid).
  DERIVED. THE GIVEN ROWS OF THIS SEAT. 7 by the template 'for every input the law returns true; each argument reads behind the call as it read before'; 0 by the template 'total and deterministic' (their statements: YtniopkoaplkpkaaTotals.lean).
  GIVEN WITH THE SEED: the statements are not yours to turn. If you find one false, say at which input.
  Laid BY PROGRAM, IN A SANDBOX (cutbox-rows.mjs): the forced cells as the released guide's own fill.sh prints them over the translation 3feb63ee998a39e9… (all of the seat's roots in one cut). By AI agents, Wed Nov 11 2026. No macro, syntax, notation, axiom, sorry.
-/
import Derived.Test.YtniopkoaplkpkaaChecked
import GoSem.Claim
import GoSem.ClaimJoined
import GoSem.ClaimMapViews
import Derived.JoinedTies
import Derived.KernelRfl
namespace Go.Proofs.Ytniopkoaplkpkaa
/- THE CELL 'sum', in the pinned program and in every row, IS THE sha256 OF THE DUMP (.gsa) THAT YtniopkoaplkpkaaProg.lean LOADS. Nothing in Lean hashes anything: it is a label: what it is worth is what the hold of that sum in a sandbox is worth. -/
noncomputable def Try.pinned : Pinned := { name := "ytniopkoaplkpkaa", sum := "3feb63ee998a39e9090770252ed0bf63b6141eca205ffa0a09786b7f872c8664", checked := Try.checked }
namespace Rows
def none {H : Type} : Left H := { results := [], args := [] }

/-- 'scrutineerlaw05.TableWrites': WHATEVER THE INPUT: true; the input reads as it did. -/
def tableWritesSpec : ChangeSpec := { name := "tableWrites", fn := fun _ => fun
  | [d] => { results := [.lit (.bool true)], args := [d] }
  | _ => none }
def tableWritesRow : OpenClaim := { program := "ytniopkoaplkpkaa", sum := "3feb63ee998a39e9090770252ed0bf63b6141eca205ffa0a09786b7f872c8664", func := "scrutineer/scrutineerlaw05.TableWrites", spec := "tableWrites", unfollowed := true, recurses := true, apart := false }
def TableWritesSaid : Prop := tableWritesRow.holds Try.pinned (OpenSpec.ofChange tableWritesSpec)

/-- ITS FALSE NEIGHBOUR: 'it returns false'. Refute it at one input. -/
def tableWritesWrong : ChangeSpec := { name := "tableWrites", fn := fun _ => fun
  | [d] => { results := [.lit (.bool false)], args := [d] }
  | _ => none }
def TableWritesWrongFalsely : Prop := tableWritesRow.holds Try.pinned (OpenSpec.ofChange tableWritesWrong)

/-- 'scrutineerlaw06.RegCuts': WHATEVER THE INPUT: true; the input reads as it did. -/
def regCutsSpec : ChangeSpec := { name := "regCuts", fn := fun _ => fun
  | [d1, d2] => { results := [.lit (.bool true)], args := [d1, d2] }
  | _ => none }
def regCutsRow : OpenClaim := { program := "ytniopkoaplkpkaa", sum := "3feb63ee998a39e9090770252ed0bf63b6141eca205ffa0a09786b7f872c8664", func := "scrutineer/scrutineerlaw06.RegCuts", spec := "regCuts", unfollowed := true, recurses := true, apart := false }
def RegCutsSaid : Prop := regCutsRow.holds Try.pinned (OpenSpec.ofChange regCutsSpec)

/-- ITS FALSE NEIGHBOUR: 'it returns false'. Refute it at one input. -/
def regCutsWrong : ChangeSpec := { name := "regCuts", fn := fun _ => fun
  | [d1, d2] => { results := [.lit (.bool false)], args := [d1, d2] }
  | _ => none }
def RegCutsWrongFalsely : Prop := regCutsRow.holds Try.pinned (OpenSpec.ofChange regCutsWrong)

/-- 'scrutineerlaw11.MsgSame': WHATEVER THE INPUT: true; the input reads as it did. -/
def msgSameSpec : ChangeSpec := { name := "msgSame", fn := fun _ => fun
  | [d1, d2] => { results := [.lit (.bool true)], args := [d1, d2] }
  | _ => none }
def msgSameRow : OpenClaim := { program := "ytniopkoaplkpkaa", sum := "3feb63ee998a39e9090770252ed0bf63b6141eca205ffa0a09786b7f872c8664", func := "scrutineer/scrutineerlaw11.MsgSame", spec := "msgSame", unfollowed := true, recurses := true, apart := false }
def MsgSameSaid : Prop := msgSameRow.holds Try.pinned (OpenSpec.ofChange msgSameSpec)

/-- ITS FALSE NEIGHBOUR: 'it returns false'. Refute it at one input. -/
def msgSameWrong : ChangeSpec := { name := "msgSame", fn := fun _ => fun
  | [d1, d2] => { results := [.lit (.bool false)], args := [d1, d2] }
  | _ => none }
def MsgSameWrongFalsely : Prop := msgSameRow.holds Try.pinned (OpenSpec.ofChange msgSameWrong)

/-- 'scrutineerlaw11.MsgSpoilt': WHATEVER THE INPUT: true; the input reads as it did. -/
def msgSpoiltSpec : ChangeSpec := { name := "msgSpoilt", fn := fun _ => fun
  | [d1, d2, d3] => { results := [.lit (.bool true)], args := [d1, d2, d3] }
  | _ => none }
def msgSpoiltRow : OpenClaim := { program := "ytniopkoaplkpkaa", sum := "3feb63ee998a39e9090770252ed0bf63b6141eca205ffa0a09786b7f872c8664", func := "scrutineer/scrutineerlaw11.MsgSpoilt", spec := "msgSpoilt", unfollowed := true, recurses := true, apart := false }
def MsgSpoiltSaid : Prop := msgSpoiltRow.holds Try.pinned (OpenSpec.ofChange msgSpoiltSpec)

/-- ITS FALSE NEIGHBOUR: 'it returns false'. Refute it at one input. -/
def msgSpoiltWrong : ChangeSpec := { name := "msgSpoilt", fn := fun _ => fun
  | [d1, d2, d3] => { results := [.lit (.bool false)], args := [d1, d2, d3] }
  | _ => none }
def MsgSpoiltWrongFalsely : Prop := msgSpoiltRow.holds Try.pinned (OpenSpec.ofChange msgSpoiltWrong)

/-- 'scrutineerlaw11.MsgMore': WHATEVER THE INPUT: true; the input reads as it did. -/
def msgMoreSpec : ChangeSpec := { name := "msgMore", fn := fun _ => fun
  | [d1, d2] => { results := [.lit (.bool true)], args := [d1, d2] }
  | _ => none }
def msgMoreRow : OpenClaim := { program := "ytniopkoaplkpkaa", sum := "3feb63ee998a39e9090770252ed0bf63b6141eca205ffa0a09786b7f872c8664", func := "scrutineer/scrutineerlaw11.MsgMore", spec := "msgMore", unfollowed := true, recurses := true, apart := false }
def MsgMoreSaid : Prop := msgMoreRow.holds Try.pinned (OpenSpec.ofChange msgMoreSpec)

/-- ITS FALSE NEIGHBOUR: 'it returns false'. Refute it at one input. -/
def msgMoreWrong : ChangeSpec := { name := "msgMore", fn := fun _ => fun
  | [d1, d2] => { results := [.lit (.bool false)], args := [d1, d2] }
  | _ => none }
def MsgMoreWrongFalsely : Prop := msgMoreRow.holds Try.pinned (OpenSpec.ofChange msgMoreWrong)

/-- 'scrutineerlaw19.NetFull': WHATEVER THE INPUT: true; the input reads as it did. -/
def netFullSpec : ChangeSpec := { name := "netFull", fn := fun _ => fun
  | [d1, d2] => { results := [.lit (.bool true)], args := [d1, d2] }
  | _ => none }
def netFullRow : OpenClaim := { program := "ytniopkoaplkpkaa", sum := "3feb63ee998a39e9090770252ed0bf63b6141eca205ffa0a09786b7f872c8664", func := "scrutineer/scrutineerlaw19.NetFull", spec := "netFull", unfollowed := true, recurses := true, apart := false }
def NetFullSaid : Prop := netFullRow.holds Try.pinned (OpenSpec.ofChange netFullSpec)

/-- ITS FALSE NEIGHBOUR: 'it returns false'. Refute it at one input. -/
def netFullWrong : ChangeSpec := { name := "netFull", fn := fun _ => fun
  | [d1, d2] => { results := [.lit (.bool false)], args := [d1, d2] }
  | _ => none }
def NetFullWrongFalsely : Prop := netFullRow.holds Try.pinned (OpenSpec.ofChange netFullWrong)

/-- 'scrutineerlaw19.NetNil': WHATEVER THE INPUT: true; the input reads as it did. -/
def netNilSpec : ChangeSpec := { name := "netNil", fn := fun _ => fun
  | [d1, d2] => { results := [.lit (.bool true)], args := [d1, d2] }
  | _ => none }
def netNilRow : OpenClaim := { program := "ytniopkoaplkpkaa", sum := "3feb63ee998a39e9090770252ed0bf63b6141eca205ffa0a09786b7f872c8664", func := "scrutineer/scrutineerlaw19.NetNil", spec := "netNil", unfollowed := true, recurses := true, apart := false }
def NetNilSaid : Prop := netNilRow.holds Try.pinned (OpenSpec.ofChange netNilSpec)

/-- ITS FALSE NEIGHBOUR: 'it returns false'. Refute it at one input. -/
def netNilWrong : ChangeSpec := { name := "netNil", fn := fun _ => fun
  | [d1, d2] => { results := [.lit (.bool false)], args := [d1, d2] }
  | _ => none }
def NetNilWrongFalsely : Prop := netNilRow.holds Try.pinned (OpenSpec.ofChange netNilWrong)

/- THE SECOND FORM. 'bulk': how many values and letters a reading holds, each counted each time it is reached (what is shared counts as often as it is met; a slice's spare places count too). A statement '..UptoSaid' is the law's where the arguments, and the package variables that the reading takes, are together of bulk at most 1048576: NARROWER than '..Said'. Prove '..Said' where nothing that the law and all that it calls make is longer than what came in: it says more and counts as full. Else prove '..UptoSaid'. A law counts once. -/
mutual
def uptoBulk {H : Type} : DataW H → Nat
  | .lit (.string bytes) => bytes.length + 1
  | .lit _ => 1
  | .nil => 1
  | .ptr d => uptoBulk d + 1
  | .slice elems spare => uptoBulkAll elems + uptoBulkAll spare + 1
  | .agg parts => uptoBulkAll parts + 1
  | .iface _ d => uptoBulk d + 1
  | .map entries => uptoBulkEntries entries + 1
  | .held _ => 1
def uptoBulkAll {H : Type} : List (DataW H) → Nat
  | [] => 0
  | d :: r => uptoBulk d + uptoBulkAll r
def uptoBulkEntries {H : Type} : List (Lit × DataW H) → Nat
  | [] => 0
  | x :: r => uptoBulkEntry x + uptoBulkEntries r
def uptoBulkEntry {H : Type} : Lit × DataW H → Nat
  | (.string bytes, d) => bytes.length + uptoBulk d + 1
  | (_, d) => uptoBulk d + 1
 end
def uptoSmall : (H : Type) → List (DataW H) → Bool := fun _ ds => decide (uptoBulkAll ds ≤ 1048576)
def OpenSpec.upto (s : _root_.Go.ChangeSpec) : _root_.Go.OpenSpec := { _root_.Go.OpenSpec.ofChange s with cond := some uptoSmall }

/-- 'scrutineerlaw05.TableWrites', WHERE WHAT IT READS IS OF BULK AT MOST 1048576: true; the input reads as it did. -/
def tableWritesUptoRow : OpenClaim := { program := "ytniopkoaplkpkaa", sum := "3feb63ee998a39e9090770252ed0bf63b6141eca205ffa0a09786b7f872c8664", func := "scrutineer/scrutineerlaw05.TableWrites", spec := "tableWrites", unfollowed := true, recurses := true, apart := false, narrowed := true }
def TableWritesUptoSaid : Prop := tableWritesUptoRow.holds Try.pinned (OpenSpec.upto tableWritesSpec)

/-- 'scrutineerlaw06.RegCuts', WHERE WHAT IT READS IS OF BULK AT MOST 1048576: true; the input reads as it did. -/
def regCutsUptoRow : OpenClaim := { program := "ytniopkoaplkpkaa", sum := "3feb63ee998a39e9090770252ed0bf63b6141eca205ffa0a09786b7f872c8664", func := "scrutineer/scrutineerlaw06.RegCuts", spec := "regCuts", unfollowed := true, recurses := true, apart := false, narrowed := true }
def RegCutsUptoSaid : Prop := regCutsUptoRow.holds Try.pinned (OpenSpec.upto regCutsSpec)

/-- 'scrutineerlaw11.MsgSame', WHERE WHAT IT READS IS OF BULK AT MOST 1048576: true; the input reads as it did. -/
def msgSameUptoRow : OpenClaim := { program := "ytniopkoaplkpkaa", sum := "3feb63ee998a39e9090770252ed0bf63b6141eca205ffa0a09786b7f872c8664", func := "scrutineer/scrutineerlaw11.MsgSame", spec := "msgSame", unfollowed := true, recurses := true, apart := false, narrowed := true }
def MsgSameUptoSaid : Prop := msgSameUptoRow.holds Try.pinned (OpenSpec.upto msgSameSpec)

/-- 'scrutineerlaw11.MsgSpoilt', WHERE WHAT IT READS IS OF BULK AT MOST 1048576: true; the input reads as it did. -/
def msgSpoiltUptoRow : OpenClaim := { program := "ytniopkoaplkpkaa", sum := "3feb63ee998a39e9090770252ed0bf63b6141eca205ffa0a09786b7f872c8664", func := "scrutineer/scrutineerlaw11.MsgSpoilt", spec := "msgSpoilt", unfollowed := true, recurses := true, apart := false, narrowed := true }
def MsgSpoiltUptoSaid : Prop := msgSpoiltUptoRow.holds Try.pinned (OpenSpec.upto msgSpoiltSpec)

/-- 'scrutineerlaw11.MsgMore', WHERE WHAT IT READS IS OF BULK AT MOST 1048576: true; the input reads as it did. -/
def msgMoreUptoRow : OpenClaim := { program := "ytniopkoaplkpkaa", sum := "3feb63ee998a39e9090770252ed0bf63b6141eca205ffa0a09786b7f872c8664", func := "scrutineer/scrutineerlaw11.MsgMore", spec := "msgMore", unfollowed := true, recurses := true, apart := false, narrowed := true }
def MsgMoreUptoSaid : Prop := msgMoreUptoRow.holds Try.pinned (OpenSpec.upto msgMoreSpec)

/-- 'scrutineerlaw19.NetFull', WHERE WHAT IT READS IS OF BULK AT MOST 1048576: true; the input reads as it did. -/
def netFullUptoRow : OpenClaim := { program := "ytniopkoaplkpkaa", sum := "3feb63ee998a39e9090770252ed0bf63b6141eca205ffa0a09786b7f872c8664", func := "scrutineer/scrutineerlaw19.NetFull", spec := "netFull", unfollowed := true, recurses := true, apart := false, narrowed := true }
def NetFullUptoSaid : Prop := netFullUptoRow.holds Try.pinned (OpenSpec.upto netFullSpec)

/-- 'scrutineerlaw19.NetNil', WHERE WHAT IT READS IS OF BULK AT MOST 1048576: true; the input reads as it did. -/
def netNilUptoRow : OpenClaim := { program := "ytniopkoaplkpkaa", sum := "3feb63ee998a39e9090770252ed0bf63b6141eca205ffa0a09786b7f872c8664", func := "scrutineer/scrutineerlaw19.NetNil", spec := "netNil", unfollowed := true, recurses := true, apart := false, narrowed := true }
def NetNilUptoSaid : Prop := netNilUptoRow.holds Try.pinned (OpenSpec.upto netNilSpec)

end Rows
end Go.Proofs.Ytniopkoaplkpkaa
