/-
  No cell of these rows narrows 'for every input' (looked for: loops, veiled, ifaces, maps, wideKeys, modest, calm, conditions, laid).
  DERIVED. THE GIVEN ROWS OF THIS SEAT. 10 by the template 'for every input the law returns true; each argument reads behind the call as it read before'; 0 by the template 'total and deterministic' (their statements: YtbijbcpalmepiaaTotals.lean).
  GIVEN WITH THE SEED: the statements are not yours to turn. If you find one false, say at which input.
  Laid BY PROGRAM, IN A SANDBOX (cutbox-rows.mjs): the forced cells as the released guide's own fill.sh prints them over the translation 5b027bbede127d8b… (all of the seat's roots in one cut). By AI agents, Wed Nov 11 2026. No macro, syntax, notation, axiom, sorry.
-/
import Derived.Test.YtbijbcpalmepiaaChecked
import GoSem.Claim
import GoSem.ClaimJoined
import GoSem.ClaimMapViews
import Derived.JoinedTies
import Derived.KernelRfl
namespace Go.Proofs.Ytbijbcpalmepiaa
/- THE CELL 'sum', in the pinned program and in every row, IS THE sha256 OF THE DUMP (.gsa) THAT YtbijbcpalmepiaaProg.lean LOADS. Nothing in Lean hashes anything: it is a label: what it is worth is what the hold of that sum in a sandbox is worth. -/
noncomputable def Try.pinned : Pinned := { name := "ytbijbcpalmepiaa", sum := "5b027bbede127d8be71803d26f9f0c3a09a8290ba5892ea0d820885d4e1a16d5", checked := Try.checked }
namespace Rows
def none {H : Type} : Left H := { results := [], args := [] }

/-- 'casematelaw08.CutRight': WHATEVER THE INPUT: true; the input reads as it did. -/
def cutRightSpec : ChangeSpec := { name := "cutRight", fn := fun _ => fun
  | [d1, d2] => { results := [.lit (.bool true)], args := [d1, d2] }
  | _ => none }
def cutRightRow : OpenClaim := { program := "ytbijbcpalmepiaa", sum := "5b027bbede127d8be71803d26f9f0c3a09a8290ba5892ea0d820885d4e1a16d5", func := "casemate/casematelaw08.CutRight", spec := "cutRight", unfollowed := true, recurses := true, apart := false }
def CutRightSaid : Prop := cutRightRow.holds Try.pinned (OpenSpec.ofChange cutRightSpec)

/-- ITS FALSE NEIGHBOUR: 'it returns false'. Refute it at one input. -/
def cutRightWrong : ChangeSpec := { name := "cutRight", fn := fun _ => fun
  | [d1, d2] => { results := [.lit (.bool false)], args := [d1, d2] }
  | _ => none }
def CutRightWrongFalsely : Prop := cutRightRow.holds Try.pinned (OpenSpec.ofChange cutRightWrong)

/-- 'casematelaw08.CutOnce': WHATEVER THE INPUT: true; the input reads as it did. -/
def cutOnceSpec : ChangeSpec := { name := "cutOnce", fn := fun _ => fun
  | [d1, d2, d3] => { results := [.lit (.bool true)], args := [d1, d2, d3] }
  | _ => none }
def cutOnceRow : OpenClaim := { program := "ytbijbcpalmepiaa", sum := "5b027bbede127d8be71803d26f9f0c3a09a8290ba5892ea0d820885d4e1a16d5", func := "casemate/casematelaw08.CutOnce", spec := "cutOnce", unfollowed := true, recurses := true, apart := false }
def CutOnceSaid : Prop := cutOnceRow.holds Try.pinned (OpenSpec.ofChange cutOnceSpec)

/-- ITS FALSE NEIGHBOUR: 'it returns false'. Refute it at one input. -/
def cutOnceWrong : ChangeSpec := { name := "cutOnce", fn := fun _ => fun
  | [d1, d2, d3] => { results := [.lit (.bool false)], args := [d1, d2, d3] }
  | _ => none }
def CutOnceWrongFalsely : Prop := cutOnceRow.holds Try.pinned (OpenSpec.ofChange cutOnceWrong)

/-- 'casematelaw08.CutFits': WHATEVER THE INPUT: true; the input reads as it did. -/
def cutFitsSpec : ChangeSpec := { name := "cutFits", fn := fun _ => fun
  | [d1, d2] => { results := [.lit (.bool true)], args := [d1, d2] }
  | _ => none }
def cutFitsRow : OpenClaim := { program := "ytbijbcpalmepiaa", sum := "5b027bbede127d8be71803d26f9f0c3a09a8290ba5892ea0d820885d4e1a16d5", func := "casemate/casematelaw08.CutFits", spec := "cutFits", unfollowed := true, recurses := true, apart := false }
def CutFitsSaid : Prop := cutFitsRow.holds Try.pinned (OpenSpec.ofChange cutFitsSpec)

/-- ITS FALSE NEIGHBOUR: 'it returns false'. Refute it at one input. -/
def cutFitsWrong : ChangeSpec := { name := "cutFits", fn := fun _ => fun
  | [d1, d2] => { results := [.lit (.bool false)], args := [d1, d2] }
  | _ => none }
def CutFitsWrongFalsely : Prop := cutFitsRow.holds Try.pinned (OpenSpec.ofChange cutFitsWrong)

/-- 'casematelaw06.IcmpAbout': WHATEVER THE INPUT: true; the input reads as it did. -/
def icmpAboutSpec : ChangeSpec := { name := "icmpAbout", fn := fun _ => fun
  | [d1, d2, d3, d4, d5] => { results := [.lit (.bool true)], args := [d1, d2, d3, d4, d5] }
  | _ => none }
def icmpAboutRow : OpenClaim := { program := "ytbijbcpalmepiaa", sum := "5b027bbede127d8be71803d26f9f0c3a09a8290ba5892ea0d820885d4e1a16d5", func := "casemate/casematelaw06.IcmpAbout", spec := "icmpAbout", apart := false }
def IcmpAboutSaid : Prop := icmpAboutRow.holds Try.pinned (OpenSpec.ofChange icmpAboutSpec)

/-- ITS FALSE NEIGHBOUR: 'it returns false'. Refute it at one input. -/
def icmpAboutWrong : ChangeSpec := { name := "icmpAbout", fn := fun _ => fun
  | [d1, d2, d3, d4, d5] => { results := [.lit (.bool false)], args := [d1, d2, d3, d4, d5] }
  | _ => none }
def IcmpAboutWrongFalsely : Prop := icmpAboutRow.holds Try.pinned (OpenSpec.ofChange icmpAboutWrong)

/-- 'casematelaw04.TcpReads': WHATEVER THE INPUT: true; the input reads as it did. -/
def tcpReadsSpec : ChangeSpec := { name := "tcpReads", fn := fun _ => fun
  | [d1, d2, d3] => { results := [.lit (.bool true)], args := [d1, d2, d3] }
  | _ => none }
def tcpReadsRow : OpenClaim := { program := "ytbijbcpalmepiaa", sum := "5b027bbede127d8be71803d26f9f0c3a09a8290ba5892ea0d820885d4e1a16d5", func := "casemate/casematelaw04.TcpReads", spec := "tcpReads", unfollowed := true, recurses := true, apart := false }
def TcpReadsSaid : Prop := tcpReadsRow.holds Try.pinned (OpenSpec.ofChange tcpReadsSpec)

/-- ITS FALSE NEIGHBOUR: 'it returns false'. Refute it at one input. -/
def tcpReadsWrong : ChangeSpec := { name := "tcpReads", fn := fun _ => fun
  | [d1, d2, d3] => { results := [.lit (.bool false)], args := [d1, d2, d3] }
  | _ => none }
def TcpReadsWrongFalsely : Prop := tcpReadsRow.holds Try.pinned (OpenSpec.ofChange tcpReadsWrong)

/-- 'casematelaw04.TcpSpoilt': WHATEVER THE INPUT: true; the input reads as it did. -/
def tcpSpoiltSpec : ChangeSpec := { name := "tcpSpoilt", fn := fun _ => fun
  | [d1, d2, d3, d4, d5] => { results := [.lit (.bool true)], args := [d1, d2, d3, d4, d5] }
  | _ => none }
def tcpSpoiltRow : OpenClaim := { program := "ytbijbcpalmepiaa", sum := "5b027bbede127d8be71803d26f9f0c3a09a8290ba5892ea0d820885d4e1a16d5", func := "casemate/casematelaw04.TcpSpoilt", spec := "tcpSpoilt", unfollowed := true, recurses := true, apart := false }
def TcpSpoiltSaid : Prop := tcpSpoiltRow.holds Try.pinned (OpenSpec.ofChange tcpSpoiltSpec)

/-- ITS FALSE NEIGHBOUR: 'it returns false'. Refute it at one input. -/
def tcpSpoiltWrong : ChangeSpec := { name := "tcpSpoilt", fn := fun _ => fun
  | [d1, d2, d3, d4, d5] => { results := [.lit (.bool false)], args := [d1, d2, d3, d4, d5] }
  | _ => none }
def TcpSpoiltWrongFalsely : Prop := tcpSpoiltRow.holds Try.pinned (OpenSpec.ofChange tcpSpoiltWrong)

/-- 'casematelaw04.TcpLaid': WHATEVER THE INPUT: true; the input reads as it did. -/
def tcpLaidSpec : ChangeSpec := { name := "tcpLaid", fn := fun _ => fun
  | [d1, d2, d3] => { results := [.lit (.bool true)], args := [d1, d2, d3] }
  | _ => none }
def tcpLaidRow : OpenClaim := { program := "ytbijbcpalmepiaa", sum := "5b027bbede127d8be71803d26f9f0c3a09a8290ba5892ea0d820885d4e1a16d5", func := "casemate/casematelaw04.TcpLaid", spec := "tcpLaid", unfollowed := true, recurses := true, apart := false }
def TcpLaidSaid : Prop := tcpLaidRow.holds Try.pinned (OpenSpec.ofChange tcpLaidSpec)

/-- ITS FALSE NEIGHBOUR: 'it returns false'. Refute it at one input. -/
def tcpLaidWrong : ChangeSpec := { name := "tcpLaid", fn := fun _ => fun
  | [d1, d2, d3] => { results := [.lit (.bool false)], args := [d1, d2, d3] }
  | _ => none }
def TcpLaidWrongFalsely : Prop := tcpLaidRow.holds Try.pinned (OpenSpec.ofChange tcpLaidWrong)

/-- 'casematelaw04.TcpBack': WHATEVER THE INPUT: true; the input reads as it did. -/
def tcpBackSpec : ChangeSpec := { name := "tcpBack", fn := fun _ => fun
  | [d1, d2, d3, d4] => { results := [.lit (.bool true)], args := [d1, d2, d3, d4] }
  | _ => none }
def tcpBackRow : OpenClaim := { program := "ytbijbcpalmepiaa", sum := "5b027bbede127d8be71803d26f9f0c3a09a8290ba5892ea0d820885d4e1a16d5", func := "casemate/casematelaw04.TcpBack", spec := "tcpBack", unfollowed := true, recurses := true, apart := false }
def TcpBackSaid : Prop := tcpBackRow.holds Try.pinned (OpenSpec.ofChange tcpBackSpec)

/-- ITS FALSE NEIGHBOUR: 'it returns false'. Refute it at one input. -/
def tcpBackWrong : ChangeSpec := { name := "tcpBack", fn := fun _ => fun
  | [d1, d2, d3, d4] => { results := [.lit (.bool false)], args := [d1, d2, d3, d4] }
  | _ => none }
def TcpBackWrongFalsely : Prop := tcpBackRow.holds Try.pinned (OpenSpec.ofChange tcpBackWrong)

/-- 'casematelaw04.TcpPuts': WHATEVER THE INPUT: true; the input reads as it did. -/
def tcpPutsSpec : ChangeSpec := { name := "tcpPuts", fn := fun _ => fun
  | [d1, d2, d3, d4, d5] => { results := [.lit (.bool true)], args := [d1, d2, d3, d4, d5] }
  | _ => none }
def tcpPutsRow : OpenClaim := { program := "ytbijbcpalmepiaa", sum := "5b027bbede127d8be71803d26f9f0c3a09a8290ba5892ea0d820885d4e1a16d5", func := "casemate/casematelaw04.TcpPuts", spec := "tcpPuts", unfollowed := true, recurses := true, apart := false }
def TcpPutsSaid : Prop := tcpPutsRow.holds Try.pinned (OpenSpec.ofChange tcpPutsSpec)

/-- ITS FALSE NEIGHBOUR: 'it returns false'. Refute it at one input. -/
def tcpPutsWrong : ChangeSpec := { name := "tcpPuts", fn := fun _ => fun
  | [d1, d2, d3, d4, d5] => { results := [.lit (.bool false)], args := [d1, d2, d3, d4, d5] }
  | _ => none }
def TcpPutsWrongFalsely : Prop := tcpPutsRow.holds Try.pinned (OpenSpec.ofChange tcpPutsWrong)

/-- 'casematelaw06.IcmpBack': WHATEVER THE INPUT: true; the input reads as it did. -/
def icmpBackSpec : ChangeSpec := { name := "icmpBack", fn := fun _ => fun
  | [d1, d2, d3] => { results := [.lit (.bool true)], args := [d1, d2, d3] }
  | _ => none }
def icmpBackRow : OpenClaim := { program := "ytbijbcpalmepiaa", sum := "5b027bbede127d8be71803d26f9f0c3a09a8290ba5892ea0d820885d4e1a16d5", func := "casemate/casematelaw06.IcmpBack", spec := "icmpBack", apart := false }
def IcmpBackSaid : Prop := icmpBackRow.holds Try.pinned (OpenSpec.ofChange icmpBackSpec)

/-- ITS FALSE NEIGHBOUR: 'it returns false'. Refute it at one input. -/
def icmpBackWrong : ChangeSpec := { name := "icmpBack", fn := fun _ => fun
  | [d1, d2, d3] => { results := [.lit (.bool false)], args := [d1, d2, d3] }
  | _ => none }
def IcmpBackWrongFalsely : Prop := icmpBackRow.holds Try.pinned (OpenSpec.ofChange icmpBackWrong)

/- THE SECOND FORM. 'bulk': how many values and letters a reading holds, each counted each time it is reached (what is shared counts as often as it is met; a slice's spare places count too). A statement '..UptoSaid' is the law's where the arguments, and the package variables that the reading takes, are together of bulk at most 1048576: NARROWER than '..Said'. Prove '..Said' where nothing that the law and all that it calls make is longer than what came in: it says more and counts as full. Else prove '..UptoSaid'. A law counts once. -/
mutual
def uptoBulk {H : Type} : DataW H → Nat
  | .lit (.string bytes) => bytes.length + 1
  | .lit _ => 1
  | .nil => 1
  | .ptr d => uptoBulk d + 1
  | .slice elems spare => uptoBulkAll elems + uptoBulkAll spare + 1
  | .agg parts => uptoBulkAll parts + 1
  | .iface _ d => uptoBulk d + 1
  | .map entries => uptoBulkEntries entries + 1
  | .held _ => 1
def uptoBulkAll {H : Type} : List (DataW H) → Nat
  | [] => 0
  | d :: r => uptoBulk d + uptoBulkAll r
def uptoBulkEntries {H : Type} : List (Lit × DataW H) → Nat
  | [] => 0
  | x :: r => uptoBulkEntry x + uptoBulkEntries r
def uptoBulkEntry {H : Type} : Lit × DataW H → Nat
  | (.string bytes, d) => bytes.length + uptoBulk d + 1
  | (_, d) => uptoBulk d + 1
 end
def uptoSmall : (H : Type) → List (DataW H) → Bool := fun _ ds => decide (uptoBulkAll ds ≤ 1048576)
def OpenSpec.upto (s : _root_.Go.ChangeSpec) : _root_.Go.OpenSpec := { _root_.Go.OpenSpec.ofChange s with cond := some uptoSmall }

/-- 'casematelaw08.CutRight', WHERE WHAT IT READS IS OF BULK AT MOST 1048576: true; the input reads as it did. -/
def cutRightUptoRow : OpenClaim := { program := "ytbijbcpalmepiaa", sum := "5b027bbede127d8be71803d26f9f0c3a09a8290ba5892ea0d820885d4e1a16d5", func := "casemate/casematelaw08.CutRight", spec := "cutRight", unfollowed := true, recurses := true, apart := false, narrowed := true }
def CutRightUptoSaid : Prop := cutRightUptoRow.holds Try.pinned (OpenSpec.upto cutRightSpec)

/-- 'casematelaw08.CutOnce', WHERE WHAT IT READS IS OF BULK AT MOST 1048576: true; the input reads as it did. -/
def cutOnceUptoRow : OpenClaim := { program := "ytbijbcpalmepiaa", sum := "5b027bbede127d8be71803d26f9f0c3a09a8290ba5892ea0d820885d4e1a16d5", func := "casemate/casematelaw08.CutOnce", spec := "cutOnce", unfollowed := true, recurses := true, apart := false, narrowed := true }
def CutOnceUptoSaid : Prop := cutOnceUptoRow.holds Try.pinned (OpenSpec.upto cutOnceSpec)

/-- 'casematelaw08.CutFits', WHERE WHAT IT READS IS OF BULK AT MOST 1048576: true; the input reads as it did. -/
def cutFitsUptoRow : OpenClaim := { program := "ytbijbcpalmepiaa", sum := "5b027bbede127d8be71803d26f9f0c3a09a8290ba5892ea0d820885d4e1a16d5", func := "casemate/casematelaw08.CutFits", spec := "cutFits", unfollowed := true, recurses := true, apart := false, narrowed := true }
def CutFitsUptoSaid : Prop := cutFitsUptoRow.holds Try.pinned (OpenSpec.upto cutFitsSpec)

/-- 'casematelaw06.IcmpAbout', WHERE WHAT IT READS IS OF BULK AT MOST 1048576: true; the input reads as it did. -/
def icmpAboutUptoRow : OpenClaim := { program := "ytbijbcpalmepiaa", sum := "5b027bbede127d8be71803d26f9f0c3a09a8290ba5892ea0d820885d4e1a16d5", func := "casemate/casematelaw06.IcmpAbout", spec := "icmpAbout", apart := false, narrowed := true }
def IcmpAboutUptoSaid : Prop := icmpAboutUptoRow.holds Try.pinned (OpenSpec.upto icmpAboutSpec)

/-- 'casematelaw04.TcpReads', WHERE WHAT IT READS IS OF BULK AT MOST 1048576: true; the input reads as it did. -/
def tcpReadsUptoRow : OpenClaim := { program := "ytbijbcpalmepiaa", sum := "5b027bbede127d8be71803d26f9f0c3a09a8290ba5892ea0d820885d4e1a16d5", func := "casemate/casematelaw04.TcpReads", spec := "tcpReads", unfollowed := true, recurses := true, apart := false, narrowed := true }
def TcpReadsUptoSaid : Prop := tcpReadsUptoRow.holds Try.pinned (OpenSpec.upto tcpReadsSpec)

/-- 'casematelaw04.TcpSpoilt', WHERE WHAT IT READS IS OF BULK AT MOST 1048576: true; the input reads as it did. -/
def tcpSpoiltUptoRow : OpenClaim := { program := "ytbijbcpalmepiaa", sum := "5b027bbede127d8be71803d26f9f0c3a09a8290ba5892ea0d820885d4e1a16d5", func := "casemate/casematelaw04.TcpSpoilt", spec := "tcpSpoilt", unfollowed := true, recurses := true, apart := false, narrowed := true }
def TcpSpoiltUptoSaid : Prop := tcpSpoiltUptoRow.holds Try.pinned (OpenSpec.upto tcpSpoiltSpec)

/-- 'casematelaw04.TcpLaid', WHERE WHAT IT READS IS OF BULK AT MOST 1048576: true; the input reads as it did. -/
def tcpLaidUptoRow : OpenClaim := { program := "ytbijbcpalmepiaa", sum := "5b027bbede127d8be71803d26f9f0c3a09a8290ba5892ea0d820885d4e1a16d5", func := "casemate/casematelaw04.TcpLaid", spec := "tcpLaid", unfollowed := true, recurses := true, apart := false, narrowed := true }
def TcpLaidUptoSaid : Prop := tcpLaidUptoRow.holds Try.pinned (OpenSpec.upto tcpLaidSpec)

/-- 'casematelaw04.TcpBack', WHERE WHAT IT READS IS OF BULK AT MOST 1048576: true; the input reads as it did. -/
def tcpBackUptoRow : OpenClaim := { program := "ytbijbcpalmepiaa", sum := "5b027bbede127d8be71803d26f9f0c3a09a8290ba5892ea0d820885d4e1a16d5", func := "casemate/casematelaw04.TcpBack", spec := "tcpBack", unfollowed := true, recurses := true, apart := false, narrowed := true }
def TcpBackUptoSaid : Prop := tcpBackUptoRow.holds Try.pinned (OpenSpec.upto tcpBackSpec)

/-- 'casematelaw04.TcpPuts', WHERE WHAT IT READS IS OF BULK AT MOST 1048576: true; the input reads as it did. -/
def tcpPutsUptoRow : OpenClaim := { program := "ytbijbcpalmepiaa", sum := "5b027bbede127d8be71803d26f9f0c3a09a8290ba5892ea0d820885d4e1a16d5", func := "casemate/casematelaw04.TcpPuts", spec := "tcpPuts", unfollowed := true, recurses := true, apart := false, narrowed := true }
def TcpPutsUptoSaid : Prop := tcpPutsUptoRow.holds Try.pinned (OpenSpec.upto tcpPutsSpec)

/-- 'casematelaw06.IcmpBack', WHERE WHAT IT READS IS OF BULK AT MOST 1048576: true; the input reads as it did. -/
def icmpBackUptoRow : OpenClaim := { program := "ytbijbcpalmepiaa", sum := "5b027bbede127d8be71803d26f9f0c3a09a8290ba5892ea0d820885d4e1a16d5", func := "casemate/casematelaw06.IcmpBack", spec := "icmpBack", apart := false, narrowed := true }
def IcmpBackUptoSaid : Prop := icmpBackUptoRow.holds Try.pinned (OpenSpec.upto icmpBackSpec)

end Rows
end Go.Proofs.Ytbijbcpalmepiaa
