/-
  DERIVED. GIVEN WITH THE SEED: THE CARDS: each row of YtfhkhnoiolkkdaaGreatDoorRows.lean that lists a variable, with what it lists TIED to the program's text (the seventh form; the later family's looks); each row that meets fmt, with fmt's text TOLD by the authors' own Lean function (tested against real Go, not proved from fmt's source: count such statements apart). THE CARD IS WHAT COUNTS. Prove the row's statement (the work); the ties are given (YtfhkhnoiolkkdaaGreatDoorTie.lean); close each card by the builder's one call (the guide's Derived/Test/ToyasCard.lean, 'card_holds'). Laid BY PROGRAM, IN A SANDBOX (cutbox-door.mjs). By AI agents, Wed Nov 11 2026. No macro, syntax, notation, axiom, sorry.
-/
import Derived.Test.YtfhkhnoiolkkdaaGreatDoorRows
import GoSem.ClaimSeven
namespace Go.Proofs.YtfhkhnoiolkkdaaGreatDoor
namespace Rows

/-- THE TIED CARD OF 'casematetop.TopExpires'. -/
def topExpiresCard : Claim7 := { stood := { row := topExpiresRow, standIns := [], harness := (true, "9c790a7a86a3af1db9a3b7ceb1329d90c988cd99defa577d3b6376a74a1a8017"), looks := true }, kinds := [], alts := [], laidByText := true, laidKinds := [.data, .data], laidTests := true, laidLooks := .later }
def TopExpiresCardSaid : Prop := Claim7.holds Tryz.pinned (.plain (OpenSpec.ofChange topExpiresSpec)) topExpiresCard

/-- THE TIED CARD OF 'casematetop.TopGuarded'. -/
def topGuardedCard : Claim7 := { stood := { row := topGuardedRow, standIns := [], harness := (true, "9c790a7a86a3af1db9a3b7ceb1329d90c988cd99defa577d3b6376a74a1a8017"), looks := true }, kinds := [], alts := [], laidByText := true, laidKinds := [.data, .data], laidTests := true, laidLooks := .later }
def TopGuardedCardSaid : Prop := Claim7.holds Tryz.pinned (.plain (OpenSpec.ofChange topGuardedSpec)) topGuardedCard

/-- THE TIED CARD OF 'casematelaw27.GateUnset'. -/
def gateUnsetCard : Claim7 := { stood := { row := gateUnsetRow, standIns := [], harness := (true, "9c790a7a86a3af1db9a3b7ceb1329d90c988cd99defa577d3b6376a74a1a8017"), looks := true }, kinds := [], alts := [], laidByText := true, laidKinds := [.data, .data], laidTests := true, laidLooks := .later }
def GateUnsetCardSaid : Prop := Claim7.holds Tryz.pinned (.plain (OpenSpec.ofChange gateUnsetSpec)) gateUnsetCard

/-- THE SECOND FORM's CARD OF 'casematetop.TopExpires'. -/
def topExpiresUptoCard : Claim7 := { stood := { row := topExpiresUptoRow, standIns := [], harness := (true, "9c790a7a86a3af1db9a3b7ceb1329d90c988cd99defa577d3b6376a74a1a8017"), looks := true }, kinds := [], alts := [], laidByText := true, laidKinds := [.data, .data], laidTests := true, laidLooks := .later }
def TopExpiresUptoCardSaid : Prop := Claim7.holds Tryz.pinned (.plain (OpenSpec.upto topExpiresSpec)) topExpiresUptoCard

/-- THE SECOND FORM's CARD OF 'casematetop.TopGuarded'. -/
def topGuardedUptoCard : Claim7 := { stood := { row := topGuardedUptoRow, standIns := [], harness := (true, "9c790a7a86a3af1db9a3b7ceb1329d90c988cd99defa577d3b6376a74a1a8017"), looks := true }, kinds := [], alts := [], laidByText := true, laidKinds := [.data, .data], laidTests := true, laidLooks := .later }
def TopGuardedUptoCardSaid : Prop := Claim7.holds Tryz.pinned (.plain (OpenSpec.upto topGuardedSpec)) topGuardedUptoCard

/-- THE SECOND FORM's CARD OF 'casematelaw27.GateUnset'. -/
def gateUnsetUptoCard : Claim7 := { stood := { row := gateUnsetUptoRow, standIns := [], harness := (true, "9c790a7a86a3af1db9a3b7ceb1329d90c988cd99defa577d3b6376a74a1a8017"), looks := true }, kinds := [], alts := [], laidByText := true, laidKinds := [.data, .data], laidTests := true, laidLooks := .later }
def GateUnsetUptoCardSaid : Prop := Claim7.holds Tryz.pinned (.plain (OpenSpec.upto gateUnsetSpec)) gateUnsetUptoCard
end Rows
end Go.Proofs.YtfhkhnoiolkkdaaGreatDoor
