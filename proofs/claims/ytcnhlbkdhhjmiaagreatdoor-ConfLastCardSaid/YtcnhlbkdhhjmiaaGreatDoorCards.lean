/-
  DERIVED. GIVEN WITH THE SEED: THE CARDS: each row of YtcnhlbkdhhjmiaaGreatDoorRows.lean that lists a variable, with what it lists TIED to the program's text (the seventh form; the later family's looks); each row that meets fmt, with fmt's text TOLD by the authors' own Lean function (tested against real Go, not proved from fmt's source: count such statements apart). THE CARD IS WHAT COUNTS. Prove the row's statement (the work); the ties are given (YtcnhlbkdhhjmiaaGreatDoorTie.lean); close each card by the builder's one call (the guide's Derived/Test/ToyasCard.lean, 'card_holds'). Laid BY PROGRAM, IN A SANDBOX (cutbox-door.mjs). By AI agents, Wed Nov 11 2026. No macro, syntax, notation, axiom, sorry.
-/
import Derived.Test.YtcnhlbkdhhjmiaaGreatDoorRows
import GoSem.ClaimSeven
namespace Go.Proofs.YtcnhlbkdhhjmiaaGreatDoor
namespace Rows

/-- THE TIED CARD OF 'casematelaw15.ConfBack'. -/
def confBackCard : Claim7 := { stood := { row := confBackRow, standIns := [], harness := (true, "ceaea8cebc48a389910bf3eaefec90c379d2789c89f35195c8a8aa1b5dabfe6d"), looks := true }, kinds := [], alts := [], laidByText := true, laidKinds := [.data, .data, .data, .data, .sentinel, .sentinel, .pinned], laidTests := true, laidLooks := .later }
def ConfBackCardSaid : Prop := Claim7.holds Tryz.pinned (.plain (OpenSpec.ofChange confBackSpec)) confBackCard

/-- THE TIED CARD OF 'casematelaw15.ConfLast'. -/
def confLastCard : Claim7 := { stood := { row := confLastRow, standIns := [], harness := (true, "ceaea8cebc48a389910bf3eaefec90c379d2789c89f35195c8a8aa1b5dabfe6d"), looks := true }, kinds := [], alts := [], laidByText := true, laidKinds := [.data, .data, .data, .data, .sentinel, .sentinel, .pinned], laidTests := true, laidLooks := .later }
def ConfLastCardSaid : Prop := Claim7.holds Tryz.pinned (.plain (OpenSpec.ofChange confLastSpec)) confLastCard

/-- THE SECOND FORM's CARD OF 'casematelaw15.ConfBack'. -/
def confBackUptoCard : Claim7 := { stood := { row := confBackUptoRow, standIns := [], harness := (true, "ceaea8cebc48a389910bf3eaefec90c379d2789c89f35195c8a8aa1b5dabfe6d"), looks := true }, kinds := [], alts := [], laidByText := true, laidKinds := [.data, .data, .data, .data, .sentinel, .sentinel, .pinned], laidTests := true, laidLooks := .later }
def ConfBackUptoCardSaid : Prop := Claim7.holds Tryz.pinned (.plain (OpenSpec.upto confBackSpec)) confBackUptoCard

/-- THE SECOND FORM's CARD OF 'casematelaw15.ConfLast'. -/
def confLastUptoCard : Claim7 := { stood := { row := confLastUptoRow, standIns := [], harness := (true, "ceaea8cebc48a389910bf3eaefec90c379d2789c89f35195c8a8aa1b5dabfe6d"), looks := true }, kinds := [], alts := [], laidByText := true, laidKinds := [.data, .data, .data, .data, .sentinel, .sentinel, .pinned], laidTests := true, laidLooks := .later }
def ConfLastUptoCardSaid : Prop := Claim7.holds Tryz.pinned (.plain (OpenSpec.upto confLastSpec)) confLastUptoCard
end Rows
end Go.Proofs.YtcnhlbkdhhjmiaaGreatDoor
