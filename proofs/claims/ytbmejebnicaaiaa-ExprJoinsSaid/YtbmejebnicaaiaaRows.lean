/-
  No cell of these rows narrows 'for every input' (looked for: loops, veiled, ifaces, maps, wideKeys, modest, calm, conditions, laid).
  DERIVED. THE GIVEN ROWS OF THIS SEAT. 10 by the template 'for every input the law returns true; each argument reads behind the call as it read before'; 0 by the template 'total and deterministic' (their statements: YtbmejebnicaaiaaTotals.lean).
  GIVEN WITH THE SEED: the statements are not yours to turn. If you find one false, say at which input.
  Laid BY PROGRAM, IN A SANDBOX (cutbox-rows.mjs): the forced cells as the released guide's own fill.sh prints them over the translation 2be1db103e6d628c… (all of the seat's roots in one cut). By AI agents, Wed Nov 11 2026. No macro, syntax, notation, axiom, sorry.
-/
import Derived.Test.YtbmejebnicaaiaaChecked
import GoSem.Claim
import GoSem.ClaimJoined
import GoSem.ClaimMapViews
import Derived.JoinedTies
import Derived.KernelRfl
namespace Go.Proofs.Ytbmejebnicaaiaa
/- THE CELL 'sum', in the pinned program and in every row, IS THE sha256 OF THE DUMP (.gsa) THAT YtbmejebnicaaiaaProg.lean LOADS. Nothing in Lean hashes anything: it is a label: what it is worth is what the hold of that sum in a sandbox is worth. -/
noncomputable def Try.pinned : Pinned := { name := "ytbmejebnicaaiaa", sum := "2be1db103e6d628c5d9ebe3f7edc09aafc7892b47a70c9e2a05f20bcf3423f0a", checked := Try.checked }
namespace Rows
def none {H : Type} : Left H := { results := [], args := [] }

/-- 'scrutineerlaw04.ExprTwo': WHATEVER THE INPUT: true; the input reads as it did. -/
def exprTwoSpec : ChangeSpec := { name := "exprTwo", fn := fun _ => fun
  | [d1, d2, d3] => { results := [.lit (.bool true)], args := [d1, d2, d3] }
  | _ => none }
def exprTwoRow : OpenClaim := { program := "ytbmejebnicaaiaa", sum := "2be1db103e6d628c5d9ebe3f7edc09aafc7892b47a70c9e2a05f20bcf3423f0a", func := "scrutineer/scrutineerlaw04.ExprTwo", spec := "exprTwo", recurses := true, apart := false }
def ExprTwoSaid : Prop := exprTwoRow.holds Try.pinned (OpenSpec.ofChange exprTwoSpec)

/-- ITS FALSE NEIGHBOUR: 'it returns false'. Refute it at one input. -/
def exprTwoWrong : ChangeSpec := { name := "exprTwo", fn := fun _ => fun
  | [d1, d2, d3] => { results := [.lit (.bool false)], args := [d1, d2, d3] }
  | _ => none }
def ExprTwoWrongFalsely : Prop := exprTwoRow.holds Try.pinned (OpenSpec.ofChange exprTwoWrong)

/-- 'scrutineerlaw04.ExprMay': WHATEVER THE INPUT: true; the input reads as it did. -/
def exprMaySpec : ChangeSpec := { name := "exprMay", fn := fun _ => fun
  | [d1, d2] => { results := [.lit (.bool true)], args := [d1, d2] }
  | _ => none }
def exprMayRow : OpenClaim := { program := "ytbmejebnicaaiaa", sum := "2be1db103e6d628c5d9ebe3f7edc09aafc7892b47a70c9e2a05f20bcf3423f0a", func := "scrutineer/scrutineerlaw04.ExprMay", spec := "exprMay", recurses := true, apart := false }
def ExprMaySaid : Prop := exprMayRow.holds Try.pinned (OpenSpec.ofChange exprMaySpec)

/-- ITS FALSE NEIGHBOUR: 'it returns false'. Refute it at one input. -/
def exprMayWrong : ChangeSpec := { name := "exprMay", fn := fun _ => fun
  | [d1, d2] => { results := [.lit (.bool false)], args := [d1, d2] }
  | _ => none }
def ExprMayWrongFalsely : Prop := exprMayRow.holds Try.pinned (OpenSpec.ofChange exprMayWrong)

/-- 'scrutineerlaw04.ExprJoins': WHATEVER THE INPUT: true; the input reads as it did. -/
def exprJoinsSpec : ChangeSpec := { name := "exprJoins", fn := fun _ => fun
  | [d1, d2, d3, d4, d5] => { results := [.lit (.bool true)], args := [d1, d2, d3, d4, d5] }
  | _ => none }
def exprJoinsRow : OpenClaim := { program := "ytbmejebnicaaiaa", sum := "2be1db103e6d628c5d9ebe3f7edc09aafc7892b47a70c9e2a05f20bcf3423f0a", func := "scrutineer/scrutineerlaw04.ExprJoins", spec := "exprJoins", recurses := true, apart := false }
def ExprJoinsSaid : Prop := exprJoinsRow.holds Try.pinned (OpenSpec.ofChange exprJoinsSpec)

/-- ITS FALSE NEIGHBOUR: 'it returns false'. Refute it at one input. -/
def exprJoinsWrong : ChangeSpec := { name := "exprJoins", fn := fun _ => fun
  | [d1, d2, d3, d4, d5] => { results := [.lit (.bool false)], args := [d1, d2, d3, d4, d5] }
  | _ => none }
def ExprJoinsWrongFalsely : Prop := exprJoinsRow.holds Try.pinned (OpenSpec.ofChange exprJoinsWrong)

/-- 'scrutineerlaw04.ExprEvals': WHATEVER THE INPUT: true; the input reads as it did. -/
def exprEvalsSpec : ChangeSpec := { name := "exprEvals", fn := fun _ => fun
  | [d1, d2, d3] => { results := [.lit (.bool true)], args := [d1, d2, d3] }
  | _ => none }
def exprEvalsRow : OpenClaim := { program := "ytbmejebnicaaiaa", sum := "2be1db103e6d628c5d9ebe3f7edc09aafc7892b47a70c9e2a05f20bcf3423f0a", func := "scrutineer/scrutineerlaw04.ExprEvals", spec := "exprEvals", recurses := true, apart := false }
def ExprEvalsSaid : Prop := exprEvalsRow.holds Try.pinned (OpenSpec.ofChange exprEvalsSpec)

/-- ITS FALSE NEIGHBOUR: 'it returns false'. Refute it at one input. -/
def exprEvalsWrong : ChangeSpec := { name := "exprEvals", fn := fun _ => fun
  | [d1, d2, d3] => { results := [.lit (.bool false)], args := [d1, d2, d3] }
  | _ => none }
def ExprEvalsWrongFalsely : Prop := exprEvalsRow.holds Try.pinned (OpenSpec.ofChange exprEvalsWrong)

/-- 'scrutineerlaw04.ExprNots': WHATEVER THE INPUT: true; the input reads as it did. -/
def exprNotsSpec : ChangeSpec := { name := "exprNots", fn := fun _ => fun
  | [d1, d2, d3] => { results := [.lit (.bool true)], args := [d1, d2, d3] }
  | _ => none }
def exprNotsRow : OpenClaim := { program := "ytbmejebnicaaiaa", sum := "2be1db103e6d628c5d9ebe3f7edc09aafc7892b47a70c9e2a05f20bcf3423f0a", func := "scrutineer/scrutineerlaw04.ExprNots", spec := "exprNots", recurses := true, apart := false }
def ExprNotsSaid : Prop := exprNotsRow.holds Try.pinned (OpenSpec.ofChange exprNotsSpec)

/-- ITS FALSE NEIGHBOUR: 'it returns false'. Refute it at one input. -/
def exprNotsWrong : ChangeSpec := { name := "exprNots", fn := fun _ => fun
  | [d1, d2, d3] => { results := [.lit (.bool false)], args := [d1, d2, d3] }
  | _ => none }
def ExprNotsWrongFalsely : Prop := exprNotsRow.holds Try.pinned (OpenSpec.ofChange exprNotsWrong)

/-- 'scrutineerlaw05.TableWrites': WHATEVER THE INPUT: true; the input reads as it did. -/
def tableWritesSpec : ChangeSpec := { name := "tableWrites", fn := fun _ => fun
  | [d] => { results := [.lit (.bool true)], args := [d] }
  | _ => none }
def tableWritesRow : OpenClaim := { program := "ytbmejebnicaaiaa", sum := "2be1db103e6d628c5d9ebe3f7edc09aafc7892b47a70c9e2a05f20bcf3423f0a", func := "scrutineer/scrutineerlaw05.TableWrites", spec := "tableWrites", unfollowed := true, recurses := true, apart := false }
def TableWritesSaid : Prop := tableWritesRow.holds Try.pinned (OpenSpec.ofChange tableWritesSpec)

/-- ITS FALSE NEIGHBOUR: 'it returns false'. Refute it at one input. -/
def tableWritesWrong : ChangeSpec := { name := "tableWrites", fn := fun _ => fun
  | [d] => { results := [.lit (.bool false)], args := [d] }
  | _ => none }
def TableWritesWrongFalsely : Prop := tableWritesRow.holds Try.pinned (OpenSpec.ofChange tableWritesWrong)

/-- 'scrutineerlaw05.TableFires': WHATEVER THE INPUT: true; the input reads as it did. -/
def tableFiresSpec : ChangeSpec := { name := "tableFires", fn := fun _ => fun
  | [d1, d2, d3, d4, d5, d6] => { results := [.lit (.bool true)], args := [d1, d2, d3, d4, d5, d6] }
  | _ => none }
def tableFiresRow : OpenClaim := { program := "ytbmejebnicaaiaa", sum := "2be1db103e6d628c5d9ebe3f7edc09aafc7892b47a70c9e2a05f20bcf3423f0a", func := "scrutineer/scrutineerlaw05.TableFires", spec := "tableFires", unfollowed := true, recurses := true, apart := false }
def TableFiresSaid : Prop := tableFiresRow.holds Try.pinned (OpenSpec.ofChange tableFiresSpec)

/-- ITS FALSE NEIGHBOUR: 'it returns false'. Refute it at one input. -/
def tableFiresWrong : ChangeSpec := { name := "tableFires", fn := fun _ => fun
  | [d1, d2, d3, d4, d5, d6] => { results := [.lit (.bool false)], args := [d1, d2, d3, d4, d5, d6] }
  | _ => none }
def TableFiresWrongFalsely : Prop := tableFiresRow.holds Try.pinned (OpenSpec.ofChange tableFiresWrong)

/-- 'scrutineerlaw05.TableFirst': WHATEVER THE INPUT: true; the input reads as it did. -/
def tableFirstSpec : ChangeSpec := { name := "tableFirst", fn := fun _ => fun
  | [d1, d2, d3, d4, d5] => { results := [.lit (.bool true)], args := [d1, d2, d3, d4, d5] }
  | _ => none }
def tableFirstRow : OpenClaim := { program := "ytbmejebnicaaiaa", sum := "2be1db103e6d628c5d9ebe3f7edc09aafc7892b47a70c9e2a05f20bcf3423f0a", func := "scrutineer/scrutineerlaw05.TableFirst", spec := "tableFirst", unfollowed := true, recurses := true, apart := false }
def TableFirstSaid : Prop := tableFirstRow.holds Try.pinned (OpenSpec.ofChange tableFirstSpec)

/-- ITS FALSE NEIGHBOUR: 'it returns false'. Refute it at one input. -/
def tableFirstWrong : ChangeSpec := { name := "tableFirst", fn := fun _ => fun
  | [d1, d2, d3, d4, d5] => { results := [.lit (.bool false)], args := [d1, d2, d3, d4, d5] }
  | _ => none }
def TableFirstWrongFalsely : Prop := tableFirstRow.holds Try.pinned (OpenSpec.ofChange tableFirstWrong)

/-- 'scrutineerlaw05.TableOthers': WHATEVER THE INPUT: true; the input reads as it did. -/
def tableOthersSpec : ChangeSpec := { name := "tableOthers", fn := fun _ => fun
  | [d1, d2, d3, d4, d5, d6, d7, d8] => { results := [.lit (.bool true)], args := [d1, d2, d3, d4, d5, d6, d7, d8] }
  | _ => none }
def tableOthersRow : OpenClaim := { program := "ytbmejebnicaaiaa", sum := "2be1db103e6d628c5d9ebe3f7edc09aafc7892b47a70c9e2a05f20bcf3423f0a", func := "scrutineer/scrutineerlaw05.TableOthers", spec := "tableOthers", unfollowed := true, recurses := true, apart := false }
def TableOthersSaid : Prop := tableOthersRow.holds Try.pinned (OpenSpec.ofChange tableOthersSpec)

/-- ITS FALSE NEIGHBOUR: 'it returns false'. Refute it at one input. -/
def tableOthersWrong : ChangeSpec := { name := "tableOthers", fn := fun _ => fun
  | [d1, d2, d3, d4, d5, d6, d7, d8] => { results := [.lit (.bool false)], args := [d1, d2, d3, d4, d5, d6, d7, d8] }
  | _ => none }
def TableOthersWrongFalsely : Prop := tableOthersRow.holds Try.pinned (OpenSpec.ofChange tableOthersWrong)

/-- 'scrutineerlaw05.TableStays': WHATEVER THE INPUT: true; the input reads as it did. -/
def tableStaysSpec : ChangeSpec := { name := "tableStays", fn := fun _ => fun
  | [d1, d2, d3, d4, d5, d6] => { results := [.lit (.bool true)], args := [d1, d2, d3, d4, d5, d6] }
  | _ => none }
def tableStaysRow : OpenClaim := { program := "ytbmejebnicaaiaa", sum := "2be1db103e6d628c5d9ebe3f7edc09aafc7892b47a70c9e2a05f20bcf3423f0a", func := "scrutineer/scrutineerlaw05.TableStays", spec := "tableStays", unfollowed := true, recurses := true, apart := false }
def TableStaysSaid : Prop := tableStaysRow.holds Try.pinned (OpenSpec.ofChange tableStaysSpec)

/-- ITS FALSE NEIGHBOUR: 'it returns false'. Refute it at one input. -/
def tableStaysWrong : ChangeSpec := { name := "tableStays", fn := fun _ => fun
  | [d1, d2, d3, d4, d5, d6] => { results := [.lit (.bool false)], args := [d1, d2, d3, d4, d5, d6] }
  | _ => none }
def TableStaysWrongFalsely : Prop := tableStaysRow.holds Try.pinned (OpenSpec.ofChange tableStaysWrong)

/- THE SECOND FORM. 'bulk': how many values and letters a reading holds, each counted each time it is reached (what is shared counts as often as it is met; a slice's spare places count too). A statement '..UptoSaid' is the law's where the arguments, and the package variables that the reading takes, are together of bulk at most 1048576: NARROWER than '..Said'. Prove '..Said' where nothing that the law and all that it calls make is longer than what came in: it says more and counts as full. Else prove '..UptoSaid'. A law counts once. -/
mutual
def uptoBulk {H : Type} : DataW H → Nat
  | .lit (.string bytes) => bytes.length + 1
  | .lit _ => 1
  | .nil => 1
  | .ptr d => uptoBulk d + 1
  | .slice elems spare => uptoBulkAll elems + uptoBulkAll spare + 1
  | .agg parts => uptoBulkAll parts + 1
  | .iface _ d => uptoBulk d + 1
  | .map entries => uptoBulkEntries entries + 1
  | .held _ => 1
def uptoBulkAll {H : Type} : List (DataW H) → Nat
  | [] => 0
  | d :: r => uptoBulk d + uptoBulkAll r
def uptoBulkEntries {H : Type} : List (Lit × DataW H) → Nat
  | [] => 0
  | x :: r => uptoBulkEntry x + uptoBulkEntries r
def uptoBulkEntry {H : Type} : Lit × DataW H → Nat
  | (.string bytes, d) => bytes.length + uptoBulk d + 1
  | (_, d) => uptoBulk d + 1
 end
def uptoSmall : (H : Type) → List (DataW H) → Bool := fun _ ds => decide (uptoBulkAll ds ≤ 1048576)
def OpenSpec.upto (s : _root_.Go.ChangeSpec) : _root_.Go.OpenSpec := { _root_.Go.OpenSpec.ofChange s with cond := some uptoSmall }

/-- 'scrutineerlaw04.ExprTwo', WHERE WHAT IT READS IS OF BULK AT MOST 1048576: true; the input reads as it did. -/
def exprTwoUptoRow : OpenClaim := { program := "ytbmejebnicaaiaa", sum := "2be1db103e6d628c5d9ebe3f7edc09aafc7892b47a70c9e2a05f20bcf3423f0a", func := "scrutineer/scrutineerlaw04.ExprTwo", spec := "exprTwo", recurses := true, apart := false, narrowed := true }
def ExprTwoUptoSaid : Prop := exprTwoUptoRow.holds Try.pinned (OpenSpec.upto exprTwoSpec)

/-- 'scrutineerlaw04.ExprMay', WHERE WHAT IT READS IS OF BULK AT MOST 1048576: true; the input reads as it did. -/
def exprMayUptoRow : OpenClaim := { program := "ytbmejebnicaaiaa", sum := "2be1db103e6d628c5d9ebe3f7edc09aafc7892b47a70c9e2a05f20bcf3423f0a", func := "scrutineer/scrutineerlaw04.ExprMay", spec := "exprMay", recurses := true, apart := false, narrowed := true }
def ExprMayUptoSaid : Prop := exprMayUptoRow.holds Try.pinned (OpenSpec.upto exprMaySpec)

/-- 'scrutineerlaw04.ExprJoins', WHERE WHAT IT READS IS OF BULK AT MOST 1048576: true; the input reads as it did. -/
def exprJoinsUptoRow : OpenClaim := { program := "ytbmejebnicaaiaa", sum := "2be1db103e6d628c5d9ebe3f7edc09aafc7892b47a70c9e2a05f20bcf3423f0a", func := "scrutineer/scrutineerlaw04.ExprJoins", spec := "exprJoins", recurses := true, apart := false, narrowed := true }
def ExprJoinsUptoSaid : Prop := exprJoinsUptoRow.holds Try.pinned (OpenSpec.upto exprJoinsSpec)

/-- 'scrutineerlaw04.ExprEvals', WHERE WHAT IT READS IS OF BULK AT MOST 1048576: true; the input reads as it did. -/
def exprEvalsUptoRow : OpenClaim := { program := "ytbmejebnicaaiaa", sum := "2be1db103e6d628c5d9ebe3f7edc09aafc7892b47a70c9e2a05f20bcf3423f0a", func := "scrutineer/scrutineerlaw04.ExprEvals", spec := "exprEvals", recurses := true, apart := false, narrowed := true }
def ExprEvalsUptoSaid : Prop := exprEvalsUptoRow.holds Try.pinned (OpenSpec.upto exprEvalsSpec)

/-- 'scrutineerlaw04.ExprNots', WHERE WHAT IT READS IS OF BULK AT MOST 1048576: true; the input reads as it did. -/
def exprNotsUptoRow : OpenClaim := { program := "ytbmejebnicaaiaa", sum := "2be1db103e6d628c5d9ebe3f7edc09aafc7892b47a70c9e2a05f20bcf3423f0a", func := "scrutineer/scrutineerlaw04.ExprNots", spec := "exprNots", recurses := true, apart := false, narrowed := true }
def ExprNotsUptoSaid : Prop := exprNotsUptoRow.holds Try.pinned (OpenSpec.upto exprNotsSpec)

/-- 'scrutineerlaw05.TableWrites', WHERE WHAT IT READS IS OF BULK AT MOST 1048576: true; the input reads as it did. -/
def tableWritesUptoRow : OpenClaim := { program := "ytbmejebnicaaiaa", sum := "2be1db103e6d628c5d9ebe3f7edc09aafc7892b47a70c9e2a05f20bcf3423f0a", func := "scrutineer/scrutineerlaw05.TableWrites", spec := "tableWrites", unfollowed := true, recurses := true, apart := false, narrowed := true }
def TableWritesUptoSaid : Prop := tableWritesUptoRow.holds Try.pinned (OpenSpec.upto tableWritesSpec)

/-- 'scrutineerlaw05.TableFires', WHERE WHAT IT READS IS OF BULK AT MOST 1048576: true; the input reads as it did. -/
def tableFiresUptoRow : OpenClaim := { program := "ytbmejebnicaaiaa", sum := "2be1db103e6d628c5d9ebe3f7edc09aafc7892b47a70c9e2a05f20bcf3423f0a", func := "scrutineer/scrutineerlaw05.TableFires", spec := "tableFires", unfollowed := true, recurses := true, apart := false, narrowed := true }
def TableFiresUptoSaid : Prop := tableFiresUptoRow.holds Try.pinned (OpenSpec.upto tableFiresSpec)

/-- 'scrutineerlaw05.TableFirst', WHERE WHAT IT READS IS OF BULK AT MOST 1048576: true; the input reads as it did. -/
def tableFirstUptoRow : OpenClaim := { program := "ytbmejebnicaaiaa", sum := "2be1db103e6d628c5d9ebe3f7edc09aafc7892b47a70c9e2a05f20bcf3423f0a", func := "scrutineer/scrutineerlaw05.TableFirst", spec := "tableFirst", unfollowed := true, recurses := true, apart := false, narrowed := true }
def TableFirstUptoSaid : Prop := tableFirstUptoRow.holds Try.pinned (OpenSpec.upto tableFirstSpec)

/-- 'scrutineerlaw05.TableOthers', WHERE WHAT IT READS IS OF BULK AT MOST 1048576: true; the input reads as it did. -/
def tableOthersUptoRow : OpenClaim := { program := "ytbmejebnicaaiaa", sum := "2be1db103e6d628c5d9ebe3f7edc09aafc7892b47a70c9e2a05f20bcf3423f0a", func := "scrutineer/scrutineerlaw05.TableOthers", spec := "tableOthers", unfollowed := true, recurses := true, apart := false, narrowed := true }
def TableOthersUptoSaid : Prop := tableOthersUptoRow.holds Try.pinned (OpenSpec.upto tableOthersSpec)

/-- 'scrutineerlaw05.TableStays', WHERE WHAT IT READS IS OF BULK AT MOST 1048576: true; the input reads as it did. -/
def tableStaysUptoRow : OpenClaim := { program := "ytbmejebnicaaiaa", sum := "2be1db103e6d628c5d9ebe3f7edc09aafc7892b47a70c9e2a05f20bcf3423f0a", func := "scrutineer/scrutineerlaw05.TableStays", spec := "tableStays", unfollowed := true, recurses := true, apart := false, narrowed := true }
def TableStaysUptoSaid : Prop := tableStaysUptoRow.holds Try.pinned (OpenSpec.upto tableStaysSpec)

end Rows
end Go.Proofs.Ytbmejebnicaaiaa
