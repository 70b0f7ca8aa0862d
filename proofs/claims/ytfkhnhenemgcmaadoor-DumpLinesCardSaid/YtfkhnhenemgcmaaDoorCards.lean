/-
  DERIVED. GIVEN WITH THE SEED: THE CARDS: each row of YtfkhnhenemgcmaaDoorRows.lean that lists a variable, with what it lists TIED to the program's text (the seventh form; the later family's looks); each row that meets fmt, with fmt's text TOLD by the authors' own Lean function (tested against real Go, not proved from fmt's source: count such statements apart). THE CARD IS WHAT COUNTS. Prove the row's statement (the work); the ties are given (YtfkhnhenemgcmaaDoorTie.lean); close each card by the builder's one call (the guide's Derived/Test/ToyasCard.lean, 'card_holds'). Laid BY PROGRAM, IN A SANDBOX (cutbox-door.mjs). By AI agents, Wed Nov 11 2026. No macro, syntax, notation, axiom, sorry.
-/
import Derived.Test.YtfkhnhenemgcmaaDoorRows
import GoSem.ClaimSeven
namespace Go.Proofs.YtfkhnhenemgcmaaDoor
namespace Rows

/-- THE TIED CARD OF 'casematelaw29.DumpRight'. -/
def dumpRightCard : Claim7 := { stood := { row := dumpRightRow, standIns := [], harness := (true, "24ce6e6425ba20b2bf2ed908663d61a0dfbca92a8b49e84ab656d803d4971b2a"), looks := false }, kinds := [], alts := [], laidByText := true, laidKinds := [.data, .data, .data], laidTests := true, laidLooks := .later }
def DumpRightCardSaid : Prop := Claim7.holds Tryd.pinned (.plain (OpenSpec.ofChange dumpRightSpec)) dumpRightCard

/-- THE TIED CARD OF 'casematelaw29.DumpBehind'. -/
def dumpBehindCard : Claim7 := { stood := { row := dumpBehindRow, standIns := [], harness := (true, "24ce6e6425ba20b2bf2ed908663d61a0dfbca92a8b49e84ab656d803d4971b2a"), looks := false }, kinds := [], alts := [], laidByText := true, laidKinds := [.data, .data, .data], laidTests := true, laidLooks := .later }
def DumpBehindCardSaid : Prop := Claim7.holds Tryd.pinned (.plain (OpenSpec.ofChange dumpBehindSpec)) dumpBehindCard

/-- THE TIED CARD OF 'casematelaw29.DumpLines'. -/
def dumpLinesCard : Claim7 := { stood := { row := dumpLinesRow, standIns := [], harness := (true, "24ce6e6425ba20b2bf2ed908663d61a0dfbca92a8b49e84ab656d803d4971b2a"), looks := false }, kinds := [], alts := [], laidByText := true, laidKinds := [.data, .data, .data], laidTests := true, laidLooks := .later }
def DumpLinesCardSaid : Prop := Claim7.holds Tryd.pinned (.plain (OpenSpec.ofChange dumpLinesSpec)) dumpLinesCard

/-- THE SECOND FORM's CARD OF 'casematelaw29.DumpRight'. -/
def dumpRightUptoCard : Claim7 := { stood := { row := dumpRightUptoRow, standIns := [], harness := (true, "24ce6e6425ba20b2bf2ed908663d61a0dfbca92a8b49e84ab656d803d4971b2a"), looks := false }, kinds := [], alts := [], laidByText := true, laidKinds := [.data, .data, .data], laidTests := true, laidLooks := .later }
def DumpRightUptoCardSaid : Prop := Claim7.holds Tryd.pinned (.plain (OpenSpec.upto dumpRightSpec)) dumpRightUptoCard

/-- THE SECOND FORM's CARD OF 'casematelaw29.DumpBehind'. -/
def dumpBehindUptoCard : Claim7 := { stood := { row := dumpBehindUptoRow, standIns := [], harness := (true, "24ce6e6425ba20b2bf2ed908663d61a0dfbca92a8b49e84ab656d803d4971b2a"), looks := false }, kinds := [], alts := [], laidByText := true, laidKinds := [.data, .data, .data], laidTests := true, laidLooks := .later }
def DumpBehindUptoCardSaid : Prop := Claim7.holds Tryd.pinned (.plain (OpenSpec.upto dumpBehindSpec)) dumpBehindUptoCard

/-- THE SECOND FORM's CARD OF 'casematelaw29.DumpLines'. -/
def dumpLinesUptoCard : Claim7 := { stood := { row := dumpLinesUptoRow, standIns := [], harness := (true, "24ce6e6425ba20b2bf2ed908663d61a0dfbca92a8b49e84ab656d803d4971b2a"), looks := false }, kinds := [], alts := [], laidByText := true, laidKinds := [.data, .data, .data], laidTests := true, laidLooks := .later }
def DumpLinesUptoCardSaid : Prop := Claim7.holds Tryd.pinned (.plain (OpenSpec.upto dumpLinesSpec)) dumpLinesUptoCard
end Rows
end Go.Proofs.YtfkhnhenemgcmaaDoor
