/-
  No cell of these rows narrows 'for every input' (looked for: loops, veiled, ifaces, maps, wideKeys, modest, calm, conditions, laid).
  DERIVED. THE GIVEN ROWS OF THIS SEAT. 4 by the template 'for every input the law returns true; each argument reads behind the call as it read before'; 0 by the template 'total and deterministic' (their statements: YtgjppmkadmfibaaTotals.lean).
  GIVEN WITH THE SEED: the statements are not yours to turn. If you find one false, say at which input.
  Laid BY PROGRAM, IN A SANDBOX (cutbox-rows.mjs): the forced cells as the released guide's own fill.sh prints them over the translation a19a917386b87129… (all of the seat's roots in one cut). By AI agents, Wed Nov 11 2026. No macro, syntax, notation, axiom, sorry.
-/
import Derived.Test.YtgjppmkadmfibaaChecked
import GoSem.Claim
import GoSem.ClaimJoined
import GoSem.ClaimMapViews
import Derived.JoinedTies
import Derived.KernelRfl
namespace Go.Proofs.Ytgjppmkadmfibaa
/- THE CELL 'sum', in the pinned program and in every row, IS THE sha256 OF THE DUMP (.gsa) THAT YtgjppmkadmfibaaProg.lean LOADS. Nothing in Lean hashes anything: it is a label: what it is worth is what the hold of that sum in a sandbox is worth. -/
noncomputable def Try.pinned : Pinned := { name := "ytgjppmkadmfibaa", sum := "a19a917386b8712950d7e3ad9bcdda395fb940adc2367813083cfdb2c30d1f3e", checked := Try.checked }
namespace Rows
def none {H : Type} : Left H := { results := [], args := [] }

/-- 'casematelaw07.ReasmWhole': WHATEVER THE INPUT: true; the input reads as it did. -/
def reasmWholeSpec : ChangeSpec := { name := "reasmWhole", fn := fun _ => fun
  | [d1, d2, d3] => { results := [.lit (.bool true)], args := [d1, d2, d3] }
  | _ => none }
def reasmWholeRow : OpenClaim := { program := "ytgjppmkadmfibaa", sum := "a19a917386b8712950d7e3ad9bcdda395fb940adc2367813083cfdb2c30d1f3e", func := "casemate/casematelaw07.ReasmWhole", spec := "reasmWhole", inPlace := ["slices.overlaps[casemate/api.Run]"], unfollowed := true, recurses := true, apart := false }
def ReasmWholeSaid : Prop := reasmWholeRow.holds Try.pinned (OpenSpec.ofChange reasmWholeSpec)

/-- ITS FALSE NEIGHBOUR: 'it returns false'. Refute it at one input. -/
def reasmWholeWrong : ChangeSpec := { name := "reasmWhole", fn := fun _ => fun
  | [d1, d2, d3] => { results := [.lit (.bool false)], args := [d1, d2, d3] }
  | _ => none }
def ReasmWholeWrongFalsely : Prop := reasmWholeRow.holds Try.pinned (OpenSpec.ofChange reasmWholeWrong)

/-- 'casematelaw07.ReasmStays': WHATEVER THE INPUT: true; the input reads as it did. -/
def reasmStaysSpec : ChangeSpec := { name := "reasmStays", fn := fun _ => fun
  | [d1, d2, d3, d4] => { results := [.lit (.bool true)], args := [d1, d2, d3, d4] }
  | _ => none }
def reasmStaysRow : OpenClaim := { program := "ytgjppmkadmfibaa", sum := "a19a917386b8712950d7e3ad9bcdda395fb940adc2367813083cfdb2c30d1f3e", func := "casemate/casematelaw07.ReasmStays", spec := "reasmStays", inPlace := ["slices.overlaps[casemate/api.Run]"], unfollowed := true, recurses := true, apart := false }
def ReasmStaysSaid : Prop := reasmStaysRow.holds Try.pinned (OpenSpec.ofChange reasmStaysSpec)

/-- ITS FALSE NEIGHBOUR: 'it returns false'. Refute it at one input. -/
def reasmStaysWrong : ChangeSpec := { name := "reasmStays", fn := fun _ => fun
  | [d1, d2, d3, d4] => { results := [.lit (.bool false)], args := [d1, d2, d3, d4] }
  | _ => none }
def ReasmStaysWrongFalsely : Prop := reasmStaysRow.holds Try.pinned (OpenSpec.ofChange reasmStaysWrong)

/-- 'casematelaw07.ReasmOld': WHATEVER THE INPUT: true; the input reads as it did. -/
def reasmOldSpec : ChangeSpec := { name := "reasmOld", fn := fun _ => fun
  | [d1, d2] => { results := [.lit (.bool true)], args := [d1, d2] }
  | _ => none }
def reasmOldRow : OpenClaim := { program := "ytgjppmkadmfibaa", sum := "a19a917386b8712950d7e3ad9bcdda395fb940adc2367813083cfdb2c30d1f3e", func := "casemate/casematelaw07.ReasmOld", spec := "reasmOld", inPlace := ["slices.overlaps[casemate/api.Run]"], unfollowed := true, recurses := true, apart := false }
def ReasmOldSaid : Prop := reasmOldRow.holds Try.pinned (OpenSpec.ofChange reasmOldSpec)

/-- ITS FALSE NEIGHBOUR: 'it returns false'. Refute it at one input. -/
def reasmOldWrong : ChangeSpec := { name := "reasmOld", fn := fun _ => fun
  | [d1, d2] => { results := [.lit (.bool false)], args := [d1, d2] }
  | _ => none }
def ReasmOldWrongFalsely : Prop := reasmOldRow.holds Try.pinned (OpenSpec.ofChange reasmOldWrong)

/-- 'casematelaw08.CutWhole': WHATEVER THE INPUT: true; the input reads as it did. -/
def cutWholeSpec : ChangeSpec := { name := "cutWhole", fn := fun _ => fun
  | [d1, d2, d3, d4] => { results := [.lit (.bool true)], args := [d1, d2, d3, d4] }
  | _ => none }
def cutWholeRow : OpenClaim := { program := "ytgjppmkadmfibaa", sum := "a19a917386b8712950d7e3ad9bcdda395fb940adc2367813083cfdb2c30d1f3e", func := "casemate/casematelaw08.CutWhole", spec := "cutWhole", inPlace := ["slices.overlaps[casemate/api.Run]"], unfollowed := true, recurses := true, apart := false }
def CutWholeSaid : Prop := cutWholeRow.holds Try.pinned (OpenSpec.ofChange cutWholeSpec)

/-- ITS FALSE NEIGHBOUR: 'it returns false'. Refute it at one input. -/
def cutWholeWrong : ChangeSpec := { name := "cutWhole", fn := fun _ => fun
  | [d1, d2, d3, d4] => { results := [.lit (.bool false)], args := [d1, d2, d3, d4] }
  | _ => none }
def CutWholeWrongFalsely : Prop := cutWholeRow.holds Try.pinned (OpenSpec.ofChange cutWholeWrong)

/- THE SECOND FORM. 'bulk': how many values and letters a reading holds, each counted each time it is reached (what is shared counts as often as it is met; a slice's spare places count too). A statement '..UptoSaid' is the law's where the arguments, and the package variables that the reading takes, are together of bulk at most 1048576: NARROWER than '..Said'. Prove '..Said' where nothing that the law and all that it calls make is longer than what came in: it says more and counts as full. Else prove '..UptoSaid'. A law counts once. -/
mutual
def uptoBulk {H : Type} : DataW H → Nat
  | .lit (.string bytes) => bytes.length + 1
  | .lit _ => 1
  | .nil => 1
  | .ptr d => uptoBulk d + 1
  | .slice elems spare => uptoBulkAll elems + uptoBulkAll spare + 1
  | .agg parts => uptoBulkAll parts + 1
  | .iface _ d => uptoBulk d + 1
  | .map entries => uptoBulkEntries entries + 1
  | .held _ => 1
def uptoBulkAll {H : Type} : List (DataW H) → Nat
  | [] => 0
  | d :: r => uptoBulk d + uptoBulkAll r
def uptoBulkEntries {H : Type} : List (Lit × DataW H) → Nat
  | [] => 0
  | x :: r => uptoBulkEntry x + uptoBulkEntries r
def uptoBulkEntry {H : Type} : Lit × DataW H → Nat
  | (.string bytes, d) => bytes.length + uptoBulk d + 1
  | (_, d) => uptoBulk d + 1
 end
def uptoSmall : (H : Type) → List (DataW H) → Bool := fun _ ds => decide (uptoBulkAll ds ≤ 1048576)
def OpenSpec.upto (s : _root_.Go.ChangeSpec) : _root_.Go.OpenSpec := { _root_.Go.OpenSpec.ofChange s with cond := some uptoSmall }

/-- 'casematelaw07.ReasmWhole', WHERE WHAT IT READS IS OF BULK AT MOST 1048576: true; the input reads as it did. -/
def reasmWholeUptoRow : OpenClaim := { program := "ytgjppmkadmfibaa", sum := "a19a917386b8712950d7e3ad9bcdda395fb940adc2367813083cfdb2c30d1f3e", func := "casemate/casematelaw07.ReasmWhole", spec := "reasmWhole", inPlace := ["slices.overlaps[casemate/api.Run]"], unfollowed := true, recurses := true, apart := false, narrowed := true }
def ReasmWholeUptoSaid : Prop := reasmWholeUptoRow.holds Try.pinned (OpenSpec.upto reasmWholeSpec)

/-- 'casematelaw07.ReasmStays', WHERE WHAT IT READS IS OF BULK AT MOST 1048576: true; the input reads as it did. -/
def reasmStaysUptoRow : OpenClaim := { program := "ytgjppmkadmfibaa", sum := "a19a917386b8712950d7e3ad9bcdda395fb940adc2367813083cfdb2c30d1f3e", func := "casemate/casematelaw07.ReasmStays", spec := "reasmStays", inPlace := ["slices.overlaps[casemate/api.Run]"], unfollowed := true, recurses := true, apart := false, narrowed := true }
def ReasmStaysUptoSaid : Prop := reasmStaysUptoRow.holds Try.pinned (OpenSpec.upto reasmStaysSpec)

/-- 'casematelaw07.ReasmOld', WHERE WHAT IT READS IS OF BULK AT MOST 1048576: true; the input reads as it did. -/
def reasmOldUptoRow : OpenClaim := { program := "ytgjppmkadmfibaa", sum := "a19a917386b8712950d7e3ad9bcdda395fb940adc2367813083cfdb2c30d1f3e", func := "casemate/casematelaw07.ReasmOld", spec := "reasmOld", inPlace := ["slices.overlaps[casemate/api.Run]"], unfollowed := true, recurses := true, apart := false, narrowed := true }
def ReasmOldUptoSaid : Prop := reasmOldUptoRow.holds Try.pinned (OpenSpec.upto reasmOldSpec)

/-- 'casematelaw08.CutWhole', WHERE WHAT IT READS IS OF BULK AT MOST 1048576: true; the input reads as it did. -/
def cutWholeUptoRow : OpenClaim := { program := "ytgjppmkadmfibaa", sum := "a19a917386b8712950d7e3ad9bcdda395fb940adc2367813083cfdb2c30d1f3e", func := "casemate/casematelaw08.CutWhole", spec := "cutWhole", inPlace := ["slices.overlaps[casemate/api.Run]"], unfollowed := true, recurses := true, apart := false, narrowed := true }
def CutWholeUptoSaid : Prop := cutWholeUptoRow.holds Try.pinned (OpenSpec.upto cutWholeSpec)

end Rows
end Go.Proofs.Ytgjppmkadmfibaa
