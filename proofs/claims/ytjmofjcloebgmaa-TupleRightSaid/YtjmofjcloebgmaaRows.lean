/-
  No cell of these rows narrows 'for every input' (looked for: loops, veiled, ifaces, maps, wideKeys, modest, calm, conditions, laid).
  DERIVED. THE GIVEN ROWS OF THIS SEAT. 10 by the template 'for every input the law returns true; each argument reads behind the call as it read before'; 0 by the template 'total and deterministic' (their statements: YtjmofjcloebgmaaTotals.lean).
  GIVEN WITH THE SEED: the statements are not yours to turn. If you find one false, say at which input.
  Laid BY PROGRAM, IN A SANDBOX (cutbox-rows.mjs): the forced cells as the released guide's own fill.sh prints them over the translation 1830f4c0ffd4d917… (all of the seat's roots in one cut). By AI agents, Wed Nov 11 2026. No macro, syntax, notation, axiom, sorry.
-/
import Derived.Test.YtjmofjcloebgmaaChecked
import GoSem.Claim
import GoSem.ClaimJoined
import GoSem.ClaimMapViews
import Derived.JoinedTies
import Derived.KernelRfl
namespace Go.Proofs.Ytjmofjcloebgmaa
/- THE CELL 'sum', in the pinned program and in every row, IS THE sha256 OF THE DUMP (.gsa) THAT YtjmofjcloebgmaaProg.lean LOADS. Nothing in Lean hashes anything: it is a label: what it is worth is what the hold of that sum in a sandbox is worth. -/
noncomputable def Try.pinned : Pinned := { name := "ytjmofjcloebgmaa", sum := "1830f4c0ffd4d917aa8be201cf7b92225147f4b3604f2d5910ce7c2b7f5ba964", checked := Try.checked }
namespace Rows
def none {H : Type} : Left H := { results := [], args := [] }

/-- 'casematelaw04.TcpReads': WHATEVER THE INPUT: true; the input reads as it did. -/
def tcpReadsSpec : ChangeSpec := { name := "tcpReads", fn := fun _ => fun
  | [d1, d2, d3] => { results := [.lit (.bool true)], args := [d1, d2, d3] }
  | _ => none }
def tcpReadsRow : OpenClaim := { program := "ytjmofjcloebgmaa", sum := "1830f4c0ffd4d917aa8be201cf7b92225147f4b3604f2d5910ce7c2b7f5ba964", func := "casemate/casematelaw04.TcpReads", spec := "tcpReads", unfollowed := true, recurses := true, apart := false }
def TcpReadsSaid : Prop := tcpReadsRow.holds Try.pinned (OpenSpec.ofChange tcpReadsSpec)

/-- ITS FALSE NEIGHBOUR: 'it returns false'. Refute it at one input. -/
def tcpReadsWrong : ChangeSpec := { name := "tcpReads", fn := fun _ => fun
  | [d1, d2, d3] => { results := [.lit (.bool false)], args := [d1, d2, d3] }
  | _ => none }
def TcpReadsWrongFalsely : Prop := tcpReadsRow.holds Try.pinned (OpenSpec.ofChange tcpReadsWrong)

/-- 'casematelaw04.TcpSpoilt': WHATEVER THE INPUT: true; the input reads as it did. -/
def tcpSpoiltSpec : ChangeSpec := { name := "tcpSpoilt", fn := fun _ => fun
  | [d1, d2, d3, d4, d5] => { results := [.lit (.bool true)], args := [d1, d2, d3, d4, d5] }
  | _ => none }
def tcpSpoiltRow : OpenClaim := { program := "ytjmofjcloebgmaa", sum := "1830f4c0ffd4d917aa8be201cf7b92225147f4b3604f2d5910ce7c2b7f5ba964", func := "casemate/casematelaw04.TcpSpoilt", spec := "tcpSpoilt", unfollowed := true, recurses := true, apart := false }
def TcpSpoiltSaid : Prop := tcpSpoiltRow.holds Try.pinned (OpenSpec.ofChange tcpSpoiltSpec)

/-- ITS FALSE NEIGHBOUR: 'it returns false'. Refute it at one input. -/
def tcpSpoiltWrong : ChangeSpec := { name := "tcpSpoilt", fn := fun _ => fun
  | [d1, d2, d3, d4, d5] => { results := [.lit (.bool false)], args := [d1, d2, d3, d4, d5] }
  | _ => none }
def TcpSpoiltWrongFalsely : Prop := tcpSpoiltRow.holds Try.pinned (OpenSpec.ofChange tcpSpoiltWrong)

/-- 'casematelaw04.TcpLaid': WHATEVER THE INPUT: true; the input reads as it did. -/
def tcpLaidSpec : ChangeSpec := { name := "tcpLaid", fn := fun _ => fun
  | [d1, d2, d3] => { results := [.lit (.bool true)], args := [d1, d2, d3] }
  | _ => none }
def tcpLaidRow : OpenClaim := { program := "ytjmofjcloebgmaa", sum := "1830f4c0ffd4d917aa8be201cf7b92225147f4b3604f2d5910ce7c2b7f5ba964", func := "casemate/casematelaw04.TcpLaid", spec := "tcpLaid", unfollowed := true, recurses := true, apart := false }
def TcpLaidSaid : Prop := tcpLaidRow.holds Try.pinned (OpenSpec.ofChange tcpLaidSpec)

/-- ITS FALSE NEIGHBOUR: 'it returns false'. Refute it at one input. -/
def tcpLaidWrong : ChangeSpec := { name := "tcpLaid", fn := fun _ => fun
  | [d1, d2, d3] => { results := [.lit (.bool false)], args := [d1, d2, d3] }
  | _ => none }
def TcpLaidWrongFalsely : Prop := tcpLaidRow.holds Try.pinned (OpenSpec.ofChange tcpLaidWrong)

/-- 'casematelaw04.TcpBack': WHATEVER THE INPUT: true; the input reads as it did. -/
def tcpBackSpec : ChangeSpec := { name := "tcpBack", fn := fun _ => fun
  | [d1, d2, d3, d4] => { results := [.lit (.bool true)], args := [d1, d2, d3, d4] }
  | _ => none }
def tcpBackRow : OpenClaim := { program := "ytjmofjcloebgmaa", sum := "1830f4c0ffd4d917aa8be201cf7b92225147f4b3604f2d5910ce7c2b7f5ba964", func := "casemate/casematelaw04.TcpBack", spec := "tcpBack", unfollowed := true, recurses := true, apart := false }
def TcpBackSaid : Prop := tcpBackRow.holds Try.pinned (OpenSpec.ofChange tcpBackSpec)

/-- ITS FALSE NEIGHBOUR: 'it returns false'. Refute it at one input. -/
def tcpBackWrong : ChangeSpec := { name := "tcpBack", fn := fun _ => fun
  | [d1, d2, d3, d4] => { results := [.lit (.bool false)], args := [d1, d2, d3, d4] }
  | _ => none }
def TcpBackWrongFalsely : Prop := tcpBackRow.holds Try.pinned (OpenSpec.ofChange tcpBackWrong)

/-- 'casematelaw04.TcpPuts': WHATEVER THE INPUT: true; the input reads as it did. -/
def tcpPutsSpec : ChangeSpec := { name := "tcpPuts", fn := fun _ => fun
  | [d1, d2, d3, d4, d5] => { results := [.lit (.bool true)], args := [d1, d2, d3, d4, d5] }
  | _ => none }
def tcpPutsRow : OpenClaim := { program := "ytjmofjcloebgmaa", sum := "1830f4c0ffd4d917aa8be201cf7b92225147f4b3604f2d5910ce7c2b7f5ba964", func := "casemate/casematelaw04.TcpPuts", spec := "tcpPuts", unfollowed := true, recurses := true, apart := false }
def TcpPutsSaid : Prop := tcpPutsRow.holds Try.pinned (OpenSpec.ofChange tcpPutsSpec)

/-- ITS FALSE NEIGHBOUR: 'it returns false'. Refute it at one input. -/
def tcpPutsWrong : ChangeSpec := { name := "tcpPuts", fn := fun _ => fun
  | [d1, d2, d3, d4, d5] => { results := [.lit (.bool false)], args := [d1, d2, d3, d4, d5] }
  | _ => none }
def TcpPutsWrongFalsely : Prop := tcpPutsRow.holds Try.pinned (OpenSpec.ofChange tcpPutsWrong)

/-- 'casematelaw20.ChalMakes': WHATEVER THE INPUT: true; the input reads as it did. -/
def chalMakesSpec : ChangeSpec := { name := "chalMakes", fn := fun _ => fun
  | [d1, d2, d3, d4, d5, d6] => { results := [.lit (.bool true)], args := [d1, d2, d3, d4, d5, d6] }
  | _ => none }
def chalMakesRow : OpenClaim := { program := "ytjmofjcloebgmaa", sum := "1830f4c0ffd4d917aa8be201cf7b92225147f4b3604f2d5910ce7c2b7f5ba964", func := "casemate/casematelaw20.ChalMakes", spec := "chalMakes", unfollowed := true, recurses := true, apart := false }
def ChalMakesSaid : Prop := chalMakesRow.holds Try.pinned (OpenSpec.ofChange chalMakesSpec)

/-- ITS FALSE NEIGHBOUR: 'it returns false'. Refute it at one input. -/
def chalMakesWrong : ChangeSpec := { name := "chalMakes", fn := fun _ => fun
  | [d1, d2, d3, d4, d5, d6] => { results := [.lit (.bool false)], args := [d1, d2, d3, d4, d5, d6] }
  | _ => none }
def ChalMakesWrongFalsely : Prop := chalMakesRow.holds Try.pinned (OpenSpec.ofChange chalMakesWrong)

/-- 'casematelaw09.TupleTurns': WHATEVER THE INPUT: true; the input reads as it did. -/
def tupleTurnsSpec : ChangeSpec := { name := "tupleTurns", fn := fun _ => fun
  | [d1, d2, d3, d4, d5] => { results := [.lit (.bool true)], args := [d1, d2, d3, d4, d5] }
  | _ => none }
def tupleTurnsRow : OpenClaim := { program := "ytjmofjcloebgmaa", sum := "1830f4c0ffd4d917aa8be201cf7b92225147f4b3604f2d5910ce7c2b7f5ba964", func := "casemate/casematelaw09.TupleTurns", spec := "tupleTurns", unfollowed := true, recurses := true, apart := false }
def TupleTurnsSaid : Prop := tupleTurnsRow.holds Try.pinned (OpenSpec.ofChange tupleTurnsSpec)

/-- ITS FALSE NEIGHBOUR: 'it returns false'. Refute it at one input. -/
def tupleTurnsWrong : ChangeSpec := { name := "tupleTurns", fn := fun _ => fun
  | [d1, d2, d3, d4, d5] => { results := [.lit (.bool false)], args := [d1, d2, d3, d4, d5] }
  | _ => none }
def TupleTurnsWrongFalsely : Prop := tupleTurnsRow.holds Try.pinned (OpenSpec.ofChange tupleTurnsWrong)

/-- 'casematelaw09.TupleRight': WHATEVER THE INPUT: true; the input reads as it did. -/
def tupleRightSpec : ChangeSpec := { name := "tupleRight", fn := fun _ => fun
  | [d1, d2, d3, d4] => { results := [.lit (.bool true)], args := [d1, d2, d3, d4] }
  | _ => none }
def tupleRightRow : OpenClaim := { program := "ytjmofjcloebgmaa", sum := "1830f4c0ffd4d917aa8be201cf7b92225147f4b3604f2d5910ce7c2b7f5ba964", func := "casemate/casematelaw09.TupleRight", spec := "tupleRight", inPlace := ["internal/bytealg.Compare"], unfollowed := true, recurses := true, apart := false }
def TupleRightSaid : Prop := tupleRightRow.holds Try.pinned (OpenSpec.ofChange tupleRightSpec)

/-- ITS FALSE NEIGHBOUR: 'it returns false'. Refute it at one input. -/
def tupleRightWrong : ChangeSpec := { name := "tupleRight", fn := fun _ => fun
  | [d1, d2, d3, d4] => { results := [.lit (.bool false)], args := [d1, d2, d3, d4] }
  | _ => none }
def TupleRightWrongFalsely : Prop := tupleRightRow.holds Try.pinned (OpenSpec.ofChange tupleRightWrong)

/-- 'casematelaw09.TupleOrder': WHATEVER THE INPUT: true; the input reads as it did. -/
def tupleOrderSpec : ChangeSpec := { name := "tupleOrder", fn := fun _ => fun
  | [d1, d2, d3] => { results := [.lit (.bool true)], args := [d1, d2, d3] }
  | _ => none }
def tupleOrderRow : OpenClaim := { program := "ytjmofjcloebgmaa", sum := "1830f4c0ffd4d917aa8be201cf7b92225147f4b3604f2d5910ce7c2b7f5ba964", func := "casemate/casematelaw09.TupleOrder", spec := "tupleOrder", inPlace := ["internal/bytealg.Compare"], unfollowed := true, recurses := true, apart := false }
def TupleOrderSaid : Prop := tupleOrderRow.holds Try.pinned (OpenSpec.ofChange tupleOrderSpec)

/-- ITS FALSE NEIGHBOUR: 'it returns false'. Refute it at one input. -/
def tupleOrderWrong : ChangeSpec := { name := "tupleOrder", fn := fun _ => fun
  | [d1, d2, d3] => { results := [.lit (.bool false)], args := [d1, d2, d3] }
  | _ => none }
def TupleOrderWrongFalsely : Prop := tupleOrderRow.holds Try.pinned (OpenSpec.ofChange tupleOrderWrong)

/-- 'casematelaw09.TuplePorts': WHATEVER THE INPUT: true; the input reads as it did. -/
def tuplePortsSpec : ChangeSpec := { name := "tuplePorts", fn := fun _ => fun
  | [d1, d2, d3, d4, d5, d6] => { results := [.lit (.bool true)], args := [d1, d2, d3, d4, d5, d6] }
  | _ => none }
def tuplePortsRow : OpenClaim := { program := "ytjmofjcloebgmaa", sum := "1830f4c0ffd4d917aa8be201cf7b92225147f4b3604f2d5910ce7c2b7f5ba964", func := "casemate/casematelaw09.TuplePorts", spec := "tuplePorts", unfollowed := true, recurses := true, apart := false }
def TuplePortsSaid : Prop := tuplePortsRow.holds Try.pinned (OpenSpec.ofChange tuplePortsSpec)

/-- ITS FALSE NEIGHBOUR: 'it returns false'. Refute it at one input. -/
def tuplePortsWrong : ChangeSpec := { name := "tuplePorts", fn := fun _ => fun
  | [d1, d2, d3, d4, d5, d6] => { results := [.lit (.bool false)], args := [d1, d2, d3, d4, d5, d6] }
  | _ => none }
def TuplePortsWrongFalsely : Prop := tuplePortsRow.holds Try.pinned (OpenSpec.ofChange tuplePortsWrong)

/- THE SECOND FORM. 'bulk': how many values and letters a reading holds, each counted each time it is reached (what is shared counts as often as it is met; a slice's spare places count too). A statement '..UptoSaid' is the law's where the arguments, and the package variables that the reading takes, are together of bulk at most 1048576: NARROWER than '..Said'. Prove '..Said' where nothing that the law and all that it calls make is longer than what came in: it says more and counts as full. Else prove '..UptoSaid'. A law counts once. -/
mutual
def uptoBulk {H : Type} : DataW H → Nat
  | .lit (.string bytes) => bytes.length + 1
  | .lit _ => 1
  | .nil => 1
  | .ptr d => uptoBulk d + 1
  | .slice elems spare => uptoBulkAll elems + uptoBulkAll spare + 1
  | .agg parts => uptoBulkAll parts + 1
  | .iface _ d => uptoBulk d + 1
  | .map entries => uptoBulkEntries entries + 1
  | .held _ => 1
def uptoBulkAll {H : Type} : List (DataW H) → Nat
  | [] => 0
  | d :: r => uptoBulk d + uptoBulkAll r
def uptoBulkEntries {H : Type} : List (Lit × DataW H) → Nat
  | [] => 0
  | x :: r => uptoBulkEntry x + uptoBulkEntries r
def uptoBulkEntry {H : Type} : Lit × DataW H → Nat
  | (.string bytes, d) => bytes.length + uptoBulk d + 1
  | (_, d) => uptoBulk d + 1
 end
def uptoSmall : (H : Type) → List (DataW H) → Bool := fun _ ds => decide (uptoBulkAll ds ≤ 1048576)
def OpenSpec.upto (s : _root_.Go.ChangeSpec) : _root_.Go.OpenSpec := { _root_.Go.OpenSpec.ofChange s with cond := some uptoSmall }

/-- 'casematelaw04.TcpReads', WHERE WHAT IT READS IS OF BULK AT MOST 1048576: true; the input reads as it did. -/
def tcpReadsUptoRow : OpenClaim := { program := "ytjmofjcloebgmaa", sum := "1830f4c0ffd4d917aa8be201cf7b92225147f4b3604f2d5910ce7c2b7f5ba964", func := "casemate/casematelaw04.TcpReads", spec := "tcpReads", unfollowed := true, recurses := true, apart := false, narrowed := true }
def TcpReadsUptoSaid : Prop := tcpReadsUptoRow.holds Try.pinned (OpenSpec.upto tcpReadsSpec)

/-- 'casematelaw04.TcpSpoilt', WHERE WHAT IT READS IS OF BULK AT MOST 1048576: true; the input reads as it did. -/
def tcpSpoiltUptoRow : OpenClaim := { program := "ytjmofjcloebgmaa", sum := "1830f4c0ffd4d917aa8be201cf7b92225147f4b3604f2d5910ce7c2b7f5ba964", func := "casemate/casematelaw04.TcpSpoilt", spec := "tcpSpoilt", unfollowed := true, recurses := true, apart := false, narrowed := true }
def TcpSpoiltUptoSaid : Prop := tcpSpoiltUptoRow.holds Try.pinned (OpenSpec.upto tcpSpoiltSpec)

/-- 'casematelaw04.TcpLaid', WHERE WHAT IT READS IS OF BULK AT MOST 1048576: true; the input reads as it did. -/
def tcpLaidUptoRow : OpenClaim := { program := "ytjmofjcloebgmaa", sum := "1830f4c0ffd4d917aa8be201cf7b92225147f4b3604f2d5910ce7c2b7f5ba964", func := "casemate/casematelaw04.TcpLaid", spec := "tcpLaid", unfollowed := true, recurses := true, apart := false, narrowed := true }
def TcpLaidUptoSaid : Prop := tcpLaidUptoRow.holds Try.pinned (OpenSpec.upto tcpLaidSpec)

/-- 'casematelaw04.TcpBack', WHERE WHAT IT READS IS OF BULK AT MOST 1048576: true; the input reads as it did. -/
def tcpBackUptoRow : OpenClaim := { program := "ytjmofjcloebgmaa", sum := "1830f4c0ffd4d917aa8be201cf7b92225147f4b3604f2d5910ce7c2b7f5ba964", func := "casemate/casematelaw04.TcpBack", spec := "tcpBack", unfollowed := true, recurses := true, apart := false, narrowed := true }
def TcpBackUptoSaid : Prop := tcpBackUptoRow.holds Try.pinned (OpenSpec.upto tcpBackSpec)

/-- 'casematelaw04.TcpPuts', WHERE WHAT IT READS IS OF BULK AT MOST 1048576: true; the input reads as it did. -/
def tcpPutsUptoRow : OpenClaim := { program := "ytjmofjcloebgmaa", sum := "1830f4c0ffd4d917aa8be201cf7b92225147f4b3604f2d5910ce7c2b7f5ba964", func := "casemate/casematelaw04.TcpPuts", spec := "tcpPuts", unfollowed := true, recurses := true, apart := false, narrowed := true }
def TcpPutsUptoSaid : Prop := tcpPutsUptoRow.holds Try.pinned (OpenSpec.upto tcpPutsSpec)

/-- 'casematelaw20.ChalMakes', WHERE WHAT IT READS IS OF BULK AT MOST 1048576: true; the input reads as it did. -/
def chalMakesUptoRow : OpenClaim := { program := "ytjmofjcloebgmaa", sum := "1830f4c0ffd4d917aa8be201cf7b92225147f4b3604f2d5910ce7c2b7f5ba964", func := "casemate/casematelaw20.ChalMakes", spec := "chalMakes", unfollowed := true, recurses := true, apart := false, narrowed := true }
def ChalMakesUptoSaid : Prop := chalMakesUptoRow.holds Try.pinned (OpenSpec.upto chalMakesSpec)

/-- 'casematelaw09.TupleTurns', WHERE WHAT IT READS IS OF BULK AT MOST 1048576: true; the input reads as it did. -/
def tupleTurnsUptoRow : OpenClaim := { program := "ytjmofjcloebgmaa", sum := "1830f4c0ffd4d917aa8be201cf7b92225147f4b3604f2d5910ce7c2b7f5ba964", func := "casemate/casematelaw09.TupleTurns", spec := "tupleTurns", unfollowed := true, recurses := true, apart := false, narrowed := true }
def TupleTurnsUptoSaid : Prop := tupleTurnsUptoRow.holds Try.pinned (OpenSpec.upto tupleTurnsSpec)

/-- 'casematelaw09.TupleRight', WHERE WHAT IT READS IS OF BULK AT MOST 1048576: true; the input reads as it did. -/
def tupleRightUptoRow : OpenClaim := { program := "ytjmofjcloebgmaa", sum := "1830f4c0ffd4d917aa8be201cf7b92225147f4b3604f2d5910ce7c2b7f5ba964", func := "casemate/casematelaw09.TupleRight", spec := "tupleRight", inPlace := ["internal/bytealg.Compare"], unfollowed := true, recurses := true, apart := false, narrowed := true }
def TupleRightUptoSaid : Prop := tupleRightUptoRow.holds Try.pinned (OpenSpec.upto tupleRightSpec)

/-- 'casematelaw09.TupleOrder', WHERE WHAT IT READS IS OF BULK AT MOST 1048576: true; the input reads as it did. -/
def tupleOrderUptoRow : OpenClaim := { program := "ytjmofjcloebgmaa", sum := "1830f4c0ffd4d917aa8be201cf7b92225147f4b3604f2d5910ce7c2b7f5ba964", func := "casemate/casematelaw09.TupleOrder", spec := "tupleOrder", inPlace := ["internal/bytealg.Compare"], unfollowed := true, recurses := true, apart := false, narrowed := true }
def TupleOrderUptoSaid : Prop := tupleOrderUptoRow.holds Try.pinned (OpenSpec.upto tupleOrderSpec)

/-- 'casematelaw09.TuplePorts', WHERE WHAT IT READS IS OF BULK AT MOST 1048576: true; the input reads as it did. -/
def tuplePortsUptoRow : OpenClaim := { program := "ytjmofjcloebgmaa", sum := "1830f4c0ffd4d917aa8be201cf7b92225147f4b3604f2d5910ce7c2b7f5ba964", func := "casemate/casematelaw09.TuplePorts", spec := "tuplePorts", unfollowed := true, recurses := true, apart := false, narrowed := true }
def TuplePortsUptoSaid : Prop := tuplePortsUptoRow.holds Try.pinned (OpenSpec.upto tuplePortsSpec)

end Rows
end Go.Proofs.Ytjmofjcloebgmaa
