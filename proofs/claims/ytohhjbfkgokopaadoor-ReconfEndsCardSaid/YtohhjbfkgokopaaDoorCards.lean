/-
  DERIVED. GIVEN WITH THE SEED: THE CARDS: each row of YtohhjbfkgokopaaDoorRows.lean that lists a variable, with what it lists TIED to the program's text (the seventh form; the later family's looks); each row that meets fmt, with fmt's text TOLD by the authors' own Lean function (tested against real Go, not proved from fmt's source: count such statements apart). THE CARD IS WHAT COUNTS. Prove the row's statement (the work); the ties are given (YtohhjbfkgokopaaDoorTie.lean); close each card by the builder's one call (the guide's Derived/Test/ToyasCard.lean, 'card_holds'). Laid BY PROGRAM, IN A SANDBOX (cutbox-door.mjs). By AI agents, Wed Nov 11 2026. No macro, syntax, notation, axiom, sorry.
-/
import Derived.Test.YtohhjbfkgokopaaDoorRows
import GoSem.ClaimSeven
namespace Go.Proofs.YtohhjbfkgokopaaDoor
namespace Rows

/-- THE TIED CARD OF 'scrutineerlaw23.ReconfPlays'. -/
def reconfPlaysCard : Claim7 := { stood := { row := reconfPlaysRow, standIns := [], harness := (true, "81c18cfd0f040085779b9524afafdca394ebfda69d91583df4d6dd68dd59e2f9"), looks := false }, kinds := [], alts := [], laidByText := true, laidKinds := [.data, .data], laidTests := true, laidLooks := .later }
def ReconfPlaysCardSaid : Prop := Claim7.holds Tryd.pinned (.plain (OpenSpec.ofChange reconfPlaysSpec)) reconfPlaysCard

/-- THE TIED CARD OF 'scrutineerlaw23.ReconfEnds'. -/
def reconfEndsCard : Claim7 := { stood := { row := reconfEndsRow, standIns := [], harness := (true, "81c18cfd0f040085779b9524afafdca394ebfda69d91583df4d6dd68dd59e2f9"), looks := false }, kinds := [], alts := [], laidByText := true, laidKinds := [.data, .data], laidTests := true, laidLooks := .later }
def ReconfEndsCardSaid : Prop := Claim7.holds Tryd.pinned (.plain (OpenSpec.ofChange reconfEndsSpec)) reconfEndsCard

/-- THE SECOND FORM's CARD OF 'scrutineerlaw23.ReconfPlays'. -/
def reconfPlaysUptoCard : Claim7 := { stood := { row := reconfPlaysUptoRow, standIns := [], harness := (true, "81c18cfd0f040085779b9524afafdca394ebfda69d91583df4d6dd68dd59e2f9"), looks := false }, kinds := [], alts := [], laidByText := true, laidKinds := [.data, .data], laidTests := true, laidLooks := .later }
def ReconfPlaysUptoCardSaid : Prop := Claim7.holds Tryd.pinned (.plain (OpenSpec.upto reconfPlaysSpec)) reconfPlaysUptoCard

/-- THE SECOND FORM's CARD OF 'scrutineerlaw23.ReconfEnds'. -/
def reconfEndsUptoCard : Claim7 := { stood := { row := reconfEndsUptoRow, standIns := [], harness := (true, "81c18cfd0f040085779b9524afafdca394ebfda69d91583df4d6dd68dd59e2f9"), looks := false }, kinds := [], alts := [], laidByText := true, laidKinds := [.data, .data], laidTests := true, laidLooks := .later }
def ReconfEndsUptoCardSaid : Prop := Claim7.holds Tryd.pinned (.plain (OpenSpec.upto reconfEndsSpec)) reconfEndsUptoCard
end Rows
end Go.Proofs.YtohhjbfkgokopaaDoor
