/-
  DERIVED. GIVEN WITH THE SEED: THE CARDS: each row of YteoommoolmddaaaDoorRows.lean that lists a variable, with what it lists TIED to the program's text (the seventh form; the later family's looks); each row that meets fmt, with fmt's text TOLD by the authors' own Lean function (tested against real Go, not proved from fmt's source: count such statements apart). THE CARD IS WHAT COUNTS. Prove the row's statement (the work); the ties are given (YteoommoolmddaaaDoorTie.lean); close each card by the builder's one call (the guide's Derived/Test/ToyasCard.lean, 'card_holds'). Laid BY PROGRAM, IN A SANDBOX (cutbox-door.mjs). By AI agents, Wed Nov 11 2026. No macro, syntax, notation, axiom, sorry.
-/
import Derived.Test.YteoommoolmddaaaDoorRows
import GoSem.ClaimSeven
namespace Go.Proofs.YteoommoolmddaaaDoor
namespace Rows

/-- THE TIED CARD OF 'casematelaw30.CountNames'. -/
def countNamesCard : Claim7 := { stood := { row := countNamesRow, standIns := [], harness := (true, "6b855da01afbce562a7e4b6a94d7f6d84beb6f20fbc16cd0596a4df9d6146426"), looks := false }, kinds := [], alts := [], laidByText := true, laidKinds := [.listed, .data], laidTests := true, laidLooks := .later }
def CountNamesCardSaid : Prop := Claim7.holds Tryd.pinned (.plain (OpenSpec.ofChange countNamesSpec)) countNamesCard

/-- THE TIED CARD OF 'casematelaw30.CountOnce'. -/
def countOnceCard : Claim7 := { stood := { row := countOnceRow, standIns := [], harness := (true, "6b855da01afbce562a7e4b6a94d7f6d84beb6f20fbc16cd0596a4df9d6146426"), looks := false }, kinds := [], alts := [], laidByText := true, laidKinds := [.listed, .data], laidTests := true, laidLooks := .later }
def CountOnceCardSaid : Prop := Claim7.holds Tryd.pinned (.plain (OpenSpec.ofChange countOnceSpec)) countOnceCard

/-- THE TIED CARD OF 'casematelaw30.CountAll'. -/
def countAllCard : Claim7 := { stood := { row := countAllRow, standIns := [], harness := (true, "6b855da01afbce562a7e4b6a94d7f6d84beb6f20fbc16cd0596a4df9d6146426"), looks := false }, kinds := [], alts := [], laidByText := true, laidKinds := [.listed, .data], laidTests := true, laidLooks := .later }
def CountAllCardSaid : Prop := Claim7.holds Tryd.pinned (.plain (OpenSpec.ofChange countAllSpec)) countAllCard

/-- THE TIED CARD OF 'casematelaw30.CountRight'. -/
def countRightCard : Claim7 := { stood := { row := countRightRow, standIns := [], harness := (true, "6b855da01afbce562a7e4b6a94d7f6d84beb6f20fbc16cd0596a4df9d6146426"), looks := false }, kinds := [], alts := [], laidByText := true, laidKinds := [.listed, .data], laidTests := true, laidLooks := .later }
def CountRightCardSaid : Prop := Claim7.holds Tryd.pinned (.plain (OpenSpec.ofChange countRightSpec)) countRightCard

/-- THE SECOND FORM's CARD OF 'casematelaw30.CountNames'. -/
def countNamesUptoCard : Claim7 := { stood := { row := countNamesUptoRow, standIns := [], harness := (true, "6b855da01afbce562a7e4b6a94d7f6d84beb6f20fbc16cd0596a4df9d6146426"), looks := false }, kinds := [], alts := [], laidByText := true, laidKinds := [.listed, .data], laidTests := true, laidLooks := .later }
def CountNamesUptoCardSaid : Prop := Claim7.holds Tryd.pinned (.plain (OpenSpec.upto countNamesSpec)) countNamesUptoCard

/-- THE SECOND FORM's CARD OF 'casematelaw30.CountOnce'. -/
def countOnceUptoCard : Claim7 := { stood := { row := countOnceUptoRow, standIns := [], harness := (true, "6b855da01afbce562a7e4b6a94d7f6d84beb6f20fbc16cd0596a4df9d6146426"), looks := false }, kinds := [], alts := [], laidByText := true, laidKinds := [.listed, .data], laidTests := true, laidLooks := .later }
def CountOnceUptoCardSaid : Prop := Claim7.holds Tryd.pinned (.plain (OpenSpec.upto countOnceSpec)) countOnceUptoCard

/-- THE SECOND FORM's CARD OF 'casematelaw30.CountAll'. -/
def countAllUptoCard : Claim7 := { stood := { row := countAllUptoRow, standIns := [], harness := (true, "6b855da01afbce562a7e4b6a94d7f6d84beb6f20fbc16cd0596a4df9d6146426"), looks := false }, kinds := [], alts := [], laidByText := true, laidKinds := [.listed, .data], laidTests := true, laidLooks := .later }
def CountAllUptoCardSaid : Prop := Claim7.holds Tryd.pinned (.plain (OpenSpec.upto countAllSpec)) countAllUptoCard

/-- THE SECOND FORM's CARD OF 'casematelaw30.CountRight'. -/
def countRightUptoCard : Claim7 := { stood := { row := countRightUptoRow, standIns := [], harness := (true, "6b855da01afbce562a7e4b6a94d7f6d84beb6f20fbc16cd0596a4df9d6146426"), looks := false }, kinds := [], alts := [], laidByText := true, laidKinds := [.listed, .data], laidTests := true, laidLooks := .later }
def CountRightUptoCardSaid : Prop := Claim7.holds Tryd.pinned (.plain (OpenSpec.upto countRightSpec)) countRightUptoCard
end Rows
end Go.Proofs.YteoommoolmddaaaDoor
