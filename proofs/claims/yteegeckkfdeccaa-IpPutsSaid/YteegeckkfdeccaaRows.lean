/-
  No cell of these rows narrows 'for every input' (looked for: loops, veiled, ifaces, maps, wideKeys, modest, calm, conditions, laid).
  DERIVED. THE GIVEN ROWS OF THIS SEAT. 12 by the template 'for every input the law returns true; each argument reads behind the call as it read before'; 0 by the template 'total and deterministic' (their statements: YteegeckkfdeccaaTotals.lean).
  GIVEN WITH THE SEED: the statements are not yours to turn. If you find one false, say at which input.
  Laid BY PROGRAM, IN A SANDBOX (cutbox-rows.mjs): the forced cells as the released guide's own fill.sh prints them over the translation 8213f47685a04ed7… (all of the seat's roots in one cut). By AI agents, Wed Nov 11 2026. No macro, syntax, notation, axiom, sorry.
-/
import Derived.Test.YteegeckkfdeccaaChecked
import GoSem.Claim
import GoSem.ClaimJoined
import GoSem.ClaimMapViews
import Derived.JoinedTies
import Derived.KernelRfl
namespace Go.Proofs.Yteegeckkfdeccaa
/- THE CELL 'sum', in the pinned program and in every row, IS THE sha256 OF THE DUMP (.gsa) THAT YteegeckkfdeccaaProg.lean LOADS. Nothing in Lean hashes anything: it is a label: what it is worth is what the hold of that sum in a sandbox is worth. -/
noncomputable def Try.pinned : Pinned := { name := "yteegeckkfdeccaa", sum := "8213f47685a04ed731a0884985fb1eee1ef0629a820d49e25f7f0e60b65d43a1", checked := Try.checked }
namespace Rows
def none {H : Type} : Left H := { results := [], args := [] }

/-- 'casematelaw06.IcmpReads': WHATEVER THE INPUT: true; the input reads as it did. -/
def icmpReadsSpec : ChangeSpec := { name := "icmpReads", fn := fun _ => fun
  | [d] => { results := [.lit (.bool true)], args := [d] }
  | _ => none }
def icmpReadsRow : OpenClaim := { program := "yteegeckkfdeccaa", sum := "8213f47685a04ed731a0884985fb1eee1ef0629a820d49e25f7f0e60b65d43a1", func := "casemate/casematelaw06.IcmpReads", spec := "icmpReads", apart := false }
def IcmpReadsSaid : Prop := icmpReadsRow.holds Try.pinned (OpenSpec.ofChange icmpReadsSpec)

/-- ITS FALSE NEIGHBOUR: 'it returns false'. Refute it at one input. -/
def icmpReadsWrong : ChangeSpec := { name := "icmpReads", fn := fun _ => fun
  | [d] => { results := [.lit (.bool false)], args := [d] }
  | _ => none }
def IcmpReadsWrongFalsely : Prop := icmpReadsRow.holds Try.pinned (OpenSpec.ofChange icmpReadsWrong)

/-- 'casematelaw06.IcmpPuts': WHATEVER THE INPUT: true; the input reads as it did. -/
def icmpPutsSpec : ChangeSpec := { name := "icmpPuts", fn := fun _ => fun
  | [d1, d2] => { results := [.lit (.bool true)], args := [d1, d2] }
  | _ => none }
def icmpPutsRow : OpenClaim := { program := "yteegeckkfdeccaa", sum := "8213f47685a04ed731a0884985fb1eee1ef0629a820d49e25f7f0e60b65d43a1", func := "casemate/casematelaw06.IcmpPuts", spec := "icmpPuts", apart := false }
def IcmpPutsSaid : Prop := icmpPutsRow.holds Try.pinned (OpenSpec.ofChange icmpPutsSpec)

/-- ITS FALSE NEIGHBOUR: 'it returns false'. Refute it at one input. -/
def icmpPutsWrong : ChangeSpec := { name := "icmpPuts", fn := fun _ => fun
  | [d1, d2] => { results := [.lit (.bool false)], args := [d1, d2] }
  | _ => none }
def IcmpPutsWrongFalsely : Prop := icmpPutsRow.holds Try.pinned (OpenSpec.ofChange icmpPutsWrong)

/-- 'casematelaw06.IcmpLaid': WHATEVER THE INPUT: true; the input reads as it did. -/
def icmpLaidSpec : ChangeSpec := { name := "icmpLaid", fn := fun _ => fun
  | [d] => { results := [.lit (.bool true)], args := [d] }
  | _ => none }
def icmpLaidRow : OpenClaim := { program := "yteegeckkfdeccaa", sum := "8213f47685a04ed731a0884985fb1eee1ef0629a820d49e25f7f0e60b65d43a1", func := "casemate/casematelaw06.IcmpLaid", spec := "icmpLaid", apart := false }
def IcmpLaidSaid : Prop := icmpLaidRow.holds Try.pinned (OpenSpec.ofChange icmpLaidSpec)

/-- ITS FALSE NEIGHBOUR: 'it returns false'. Refute it at one input. -/
def icmpLaidWrong : ChangeSpec := { name := "icmpLaid", fn := fun _ => fun
  | [d] => { results := [.lit (.bool false)], args := [d] }
  | _ => none }
def IcmpLaidWrongFalsely : Prop := icmpLaidRow.holds Try.pinned (OpenSpec.ofChange icmpLaidWrong)

/-- 'casematelaw03.IpSpoilt': WHATEVER THE INPUT: true; the input reads as it did. -/
def ipSpoiltSpec : ChangeSpec := { name := "ipSpoilt", fn := fun _ => fun
  | [d1, d2, d3] => { results := [.lit (.bool true)], args := [d1, d2, d3] }
  | _ => none }
def ipSpoiltRow : OpenClaim := { program := "yteegeckkfdeccaa", sum := "8213f47685a04ed731a0884985fb1eee1ef0629a820d49e25f7f0e60b65d43a1", func := "casemate/casematelaw03.IpSpoilt", spec := "ipSpoilt", apart := false }
def IpSpoiltSaid : Prop := ipSpoiltRow.holds Try.pinned (OpenSpec.ofChange ipSpoiltSpec)

/-- ITS FALSE NEIGHBOUR: 'it returns false'. Refute it at one input. -/
def ipSpoiltWrong : ChangeSpec := { name := "ipSpoilt", fn := fun _ => fun
  | [d1, d2, d3] => { results := [.lit (.bool false)], args := [d1, d2, d3] }
  | _ => none }
def IpSpoiltWrongFalsely : Prop := ipSpoiltRow.holds Try.pinned (OpenSpec.ofChange ipSpoiltWrong)

/-- 'casematelaw03.IpLaid': WHATEVER THE INPUT: true; the input reads as it did. -/
def ipLaidSpec : ChangeSpec := { name := "ipLaid", fn := fun _ => fun
  | [d] => { results := [.lit (.bool true)], args := [d] }
  | _ => none }
def ipLaidRow : OpenClaim := { program := "yteegeckkfdeccaa", sum := "8213f47685a04ed731a0884985fb1eee1ef0629a820d49e25f7f0e60b65d43a1", func := "casemate/casematelaw03.IpLaid", spec := "ipLaid", apart := false }
def IpLaidSaid : Prop := ipLaidRow.holds Try.pinned (OpenSpec.ofChange ipLaidSpec)

/-- ITS FALSE NEIGHBOUR: 'it returns false'. Refute it at one input. -/
def ipLaidWrong : ChangeSpec := { name := "ipLaid", fn := fun _ => fun
  | [d] => { results := [.lit (.bool false)], args := [d] }
  | _ => none }
def IpLaidWrongFalsely : Prop := ipLaidRow.holds Try.pinned (OpenSpec.ofChange ipLaidWrong)

/-- 'casematelaw08.CutRight': WHATEVER THE INPUT: true; the input reads as it did. -/
def cutRightSpec : ChangeSpec := { name := "cutRight", fn := fun _ => fun
  | [d1, d2] => { results := [.lit (.bool true)], args := [d1, d2] }
  | _ => none }
def cutRightRow : OpenClaim := { program := "yteegeckkfdeccaa", sum := "8213f47685a04ed731a0884985fb1eee1ef0629a820d49e25f7f0e60b65d43a1", func := "casemate/casematelaw08.CutRight", spec := "cutRight", unfollowed := true, recurses := true, apart := false }
def CutRightSaid : Prop := cutRightRow.holds Try.pinned (OpenSpec.ofChange cutRightSpec)

/-- ITS FALSE NEIGHBOUR: 'it returns false'. Refute it at one input. -/
def cutRightWrong : ChangeSpec := { name := "cutRight", fn := fun _ => fun
  | [d1, d2] => { results := [.lit (.bool false)], args := [d1, d2] }
  | _ => none }
def CutRightWrongFalsely : Prop := cutRightRow.holds Try.pinned (OpenSpec.ofChange cutRightWrong)

/-- 'casematelaw08.CutOnce': WHATEVER THE INPUT: true; the input reads as it did. -/
def cutOnceSpec : ChangeSpec := { name := "cutOnce", fn := fun _ => fun
  | [d1, d2, d3] => { results := [.lit (.bool true)], args := [d1, d2, d3] }
  | _ => none }
def cutOnceRow : OpenClaim := { program := "yteegeckkfdeccaa", sum := "8213f47685a04ed731a0884985fb1eee1ef0629a820d49e25f7f0e60b65d43a1", func := "casemate/casematelaw08.CutOnce", spec := "cutOnce", unfollowed := true, recurses := true, apart := false }
def CutOnceSaid : Prop := cutOnceRow.holds Try.pinned (OpenSpec.ofChange cutOnceSpec)

/-- ITS FALSE NEIGHBOUR: 'it returns false'. Refute it at one input. -/
def cutOnceWrong : ChangeSpec := { name := "cutOnce", fn := fun _ => fun
  | [d1, d2, d3] => { results := [.lit (.bool false)], args := [d1, d2, d3] }
  | _ => none }
def CutOnceWrongFalsely : Prop := cutOnceRow.holds Try.pinned (OpenSpec.ofChange cutOnceWrong)

/-- 'casematelaw08.CutFits': WHATEVER THE INPUT: true; the input reads as it did. -/
def cutFitsSpec : ChangeSpec := { name := "cutFits", fn := fun _ => fun
  | [d1, d2] => { results := [.lit (.bool true)], args := [d1, d2] }
  | _ => none }
def cutFitsRow : OpenClaim := { program := "yteegeckkfdeccaa", sum := "8213f47685a04ed731a0884985fb1eee1ef0629a820d49e25f7f0e60b65d43a1", func := "casemate/casematelaw08.CutFits", spec := "cutFits", unfollowed := true, recurses := true, apart := false }
def CutFitsSaid : Prop := cutFitsRow.holds Try.pinned (OpenSpec.ofChange cutFitsSpec)

/-- ITS FALSE NEIGHBOUR: 'it returns false'. Refute it at one input. -/
def cutFitsWrong : ChangeSpec := { name := "cutFits", fn := fun _ => fun
  | [d1, d2] => { results := [.lit (.bool false)], args := [d1, d2] }
  | _ => none }
def CutFitsWrongFalsely : Prop := cutFitsRow.holds Try.pinned (OpenSpec.ofChange cutFitsWrong)

/-- 'casematelaw03.IpReads': WHATEVER THE INPUT: true; the input reads as it did. -/
def ipReadsSpec : ChangeSpec := { name := "ipReads", fn := fun _ => fun
  | [d] => { results := [.lit (.bool true)], args := [d] }
  | _ => none }
def ipReadsRow : OpenClaim := { program := "yteegeckkfdeccaa", sum := "8213f47685a04ed731a0884985fb1eee1ef0629a820d49e25f7f0e60b65d43a1", func := "casemate/casematelaw03.IpReads", spec := "ipReads", apart := false }
def IpReadsSaid : Prop := ipReadsRow.holds Try.pinned (OpenSpec.ofChange ipReadsSpec)

/-- ITS FALSE NEIGHBOUR: 'it returns false'. Refute it at one input. -/
def ipReadsWrong : ChangeSpec := { name := "ipReads", fn := fun _ => fun
  | [d] => { results := [.lit (.bool false)], args := [d] }
  | _ => none }
def IpReadsWrongFalsely : Prop := ipReadsRow.holds Try.pinned (OpenSpec.ofChange ipReadsWrong)

/-- 'casematelaw03.IpBack': WHATEVER THE INPUT: true; the input reads as it did. -/
def ipBackSpec : ChangeSpec := { name := "ipBack", fn := fun _ => fun
  | [d1, d2] => { results := [.lit (.bool true)], args := [d1, d2] }
  | _ => none }
def ipBackRow : OpenClaim := { program := "yteegeckkfdeccaa", sum := "8213f47685a04ed731a0884985fb1eee1ef0629a820d49e25f7f0e60b65d43a1", func := "casemate/casematelaw03.IpBack", spec := "ipBack", apart := false }
def IpBackSaid : Prop := ipBackRow.holds Try.pinned (OpenSpec.ofChange ipBackSpec)

/-- ITS FALSE NEIGHBOUR: 'it returns false'. Refute it at one input. -/
def ipBackWrong : ChangeSpec := { name := "ipBack", fn := fun _ => fun
  | [d1, d2] => { results := [.lit (.bool false)], args := [d1, d2] }
  | _ => none }
def IpBackWrongFalsely : Prop := ipBackRow.holds Try.pinned (OpenSpec.ofChange ipBackWrong)

/-- 'casematelaw03.IpPuts': WHATEVER THE INPUT: true; the input reads as it did. -/
def ipPutsSpec : ChangeSpec := { name := "ipPuts", fn := fun _ => fun
  | [d1, d2] => { results := [.lit (.bool true)], args := [d1, d2] }
  | _ => none }
def ipPutsRow : OpenClaim := { program := "yteegeckkfdeccaa", sum := "8213f47685a04ed731a0884985fb1eee1ef0629a820d49e25f7f0e60b65d43a1", func := "casemate/casematelaw03.IpPuts", spec := "ipPuts", apart := false }
def IpPutsSaid : Prop := ipPutsRow.holds Try.pinned (OpenSpec.ofChange ipPutsSpec)

/-- ITS FALSE NEIGHBOUR: 'it returns false'. Refute it at one input. -/
def ipPutsWrong : ChangeSpec := { name := "ipPuts", fn := fun _ => fun
  | [d1, d2] => { results := [.lit (.bool false)], args := [d1, d2] }
  | _ => none }
def IpPutsWrongFalsely : Prop := ipPutsRow.holds Try.pinned (OpenSpec.ofChange ipPutsWrong)

/-- 'casematelaw06.IcmpAbout': WHATEVER THE INPUT: true; the input reads as it did. -/
def icmpAboutSpec : ChangeSpec := { name := "icmpAbout", fn := fun _ => fun
  | [d1, d2, d3, d4, d5] => { results := [.lit (.bool true)], args := [d1, d2, d3, d4, d5] }
  | _ => none }
def icmpAboutRow : OpenClaim := { program := "yteegeckkfdeccaa", sum := "8213f47685a04ed731a0884985fb1eee1ef0629a820d49e25f7f0e60b65d43a1", func := "casemate/casematelaw06.IcmpAbout", spec := "icmpAbout", apart := false }
def IcmpAboutSaid : Prop := icmpAboutRow.holds Try.pinned (OpenSpec.ofChange icmpAboutSpec)

/-- ITS FALSE NEIGHBOUR: 'it returns false'. Refute it at one input. -/
def icmpAboutWrong : ChangeSpec := { name := "icmpAbout", fn := fun _ => fun
  | [d1, d2, d3, d4, d5] => { results := [.lit (.bool false)], args := [d1, d2, d3, d4, d5] }
  | _ => none }
def IcmpAboutWrongFalsely : Prop := icmpAboutRow.holds Try.pinned (OpenSpec.ofChange icmpAboutWrong)

/- THE SECOND FORM. 'bulk': how many values and letters a reading holds, each counted each time it is reached (what is shared counts as often as it is met; a slice's spare places count too). A statement '..UptoSaid' is the law's where the arguments, and the package variables that the reading takes, are together of bulk at most 1048576: NARROWER than '..Said'. Prove '..Said' where nothing that the law and all that it calls make is longer than what came in: it says more and counts as full. Else prove '..UptoSaid'. A law counts once. -/
mutual
def uptoBulk {H : Type} : DataW H → Nat
  | .lit (.string bytes) => bytes.length + 1
  | .lit _ => 1
  | .nil => 1
  | .ptr d => uptoBulk d + 1
  | .slice elems spare => uptoBulkAll elems + uptoBulkAll spare + 1
  | .agg parts => uptoBulkAll parts + 1
  | .iface _ d => uptoBulk d + 1
  | .map entries => uptoBulkEntries entries + 1
  | .held _ => 1
def uptoBulkAll {H : Type} : List (DataW H) → Nat
  | [] => 0
  | d :: r => uptoBulk d + uptoBulkAll r
def uptoBulkEntries {H : Type} : List (Lit × DataW H) → Nat
  | [] => 0
  | x :: r => uptoBulkEntry x + uptoBulkEntries r
def uptoBulkEntry {H : Type} : Lit × DataW H → Nat
  | (.string bytes, d) => bytes.length + uptoBulk d + 1
  | (_, d) => uptoBulk d + 1
 end
def uptoSmall : (H : Type) → List (DataW H) → Bool := fun _ ds => decide (uptoBulkAll ds ≤ 1048576)
def OpenSpec.upto (s : _root_.Go.ChangeSpec) : _root_.Go.OpenSpec := { _root_.Go.OpenSpec.ofChange s with cond := some uptoSmall }

/-- 'casematelaw06.IcmpReads', WHERE WHAT IT READS IS OF BULK AT MOST 1048576: true; the input reads as it did. -/
def icmpReadsUptoRow : OpenClaim := { program := "yteegeckkfdeccaa", sum := "8213f47685a04ed731a0884985fb1eee1ef0629a820d49e25f7f0e60b65d43a1", func := "casemate/casematelaw06.IcmpReads", spec := "icmpReads", apart := false, narrowed := true }
def IcmpReadsUptoSaid : Prop := icmpReadsUptoRow.holds Try.pinned (OpenSpec.upto icmpReadsSpec)

/-- 'casematelaw06.IcmpPuts', WHERE WHAT IT READS IS OF BULK AT MOST 1048576: true; the input reads as it did. -/
def icmpPutsUptoRow : OpenClaim := { program := "yteegeckkfdeccaa", sum := "8213f47685a04ed731a0884985fb1eee1ef0629a820d49e25f7f0e60b65d43a1", func := "casemate/casematelaw06.IcmpPuts", spec := "icmpPuts", apart := false, narrowed := true }
def IcmpPutsUptoSaid : Prop := icmpPutsUptoRow.holds Try.pinned (OpenSpec.upto icmpPutsSpec)

/-- 'casematelaw06.IcmpLaid', WHERE WHAT IT READS IS OF BULK AT MOST 1048576: true; the input reads as it did. -/
def icmpLaidUptoRow : OpenClaim := { program := "yteegeckkfdeccaa", sum := "8213f47685a04ed731a0884985fb1eee1ef0629a820d49e25f7f0e60b65d43a1", func := "casemate/casematelaw06.IcmpLaid", spec := "icmpLaid", apart := false, narrowed := true }
def IcmpLaidUptoSaid : Prop := icmpLaidUptoRow.holds Try.pinned (OpenSpec.upto icmpLaidSpec)

/-- 'casematelaw03.IpSpoilt', WHERE WHAT IT READS IS OF BULK AT MOST 1048576: true; the input reads as it did. -/
def ipSpoiltUptoRow : OpenClaim := { program := "yteegeckkfdeccaa", sum := "8213f47685a04ed731a0884985fb1eee1ef0629a820d49e25f7f0e60b65d43a1", func := "casemate/casematelaw03.IpSpoilt", spec := "ipSpoilt", apart := false, narrowed := true }
def IpSpoiltUptoSaid : Prop := ipSpoiltUptoRow.holds Try.pinned (OpenSpec.upto ipSpoiltSpec)

/-- 'casematelaw03.IpLaid', WHERE WHAT IT READS IS OF BULK AT MOST 1048576: true; the input reads as it did. -/
def ipLaidUptoRow : OpenClaim := { program := "yteegeckkfdeccaa", sum := "8213f47685a04ed731a0884985fb1eee1ef0629a820d49e25f7f0e60b65d43a1", func := "casemate/casematelaw03.IpLaid", spec := "ipLaid", apart := false, narrowed := true }
def IpLaidUptoSaid : Prop := ipLaidUptoRow.holds Try.pinned (OpenSpec.upto ipLaidSpec)

/-- 'casematelaw08.CutRight', WHERE WHAT IT READS IS OF BULK AT MOST 1048576: true; the input reads as it did. -/
def cutRightUptoRow : OpenClaim := { program := "yteegeckkfdeccaa", sum := "8213f47685a04ed731a0884985fb1eee1ef0629a820d49e25f7f0e60b65d43a1", func := "casemate/casematelaw08.CutRight", spec := "cutRight", unfollowed := true, recurses := true, apart := false, narrowed := true }
def CutRightUptoSaid : Prop := cutRightUptoRow.holds Try.pinned (OpenSpec.upto cutRightSpec)

/-- 'casematelaw08.CutOnce', WHERE WHAT IT READS IS OF BULK AT MOST 1048576: true; the input reads as it did. -/
def cutOnceUptoRow : OpenClaim := { program := "yteegeckkfdeccaa", sum := "8213f47685a04ed731a0884985fb1eee1ef0629a820d49e25f7f0e60b65d43a1", func := "casemate/casematelaw08.CutOnce", spec := "cutOnce", unfollowed := true, recurses := true, apart := false, narrowed := true }
def CutOnceUptoSaid : Prop := cutOnceUptoRow.holds Try.pinned (OpenSpec.upto cutOnceSpec)

/-- 'casematelaw08.CutFits', WHERE WHAT IT READS IS OF BULK AT MOST 1048576: true; the input reads as it did. -/
def cutFitsUptoRow : OpenClaim := { program := "yteegeckkfdeccaa", sum := "8213f47685a04ed731a0884985fb1eee1ef0629a820d49e25f7f0e60b65d43a1", func := "casemate/casematelaw08.CutFits", spec := "cutFits", unfollowed := true, recurses := true, apart := false, narrowed := true }
def CutFitsUptoSaid : Prop := cutFitsUptoRow.holds Try.pinned (OpenSpec.upto cutFitsSpec)

/-- 'casematelaw03.IpReads', WHERE WHAT IT READS IS OF BULK AT MOST 1048576: true; the input reads as it did. -/
def ipReadsUptoRow : OpenClaim := { program := "yteegeckkfdeccaa", sum := "8213f47685a04ed731a0884985fb1eee1ef0629a820d49e25f7f0e60b65d43a1", func := "casemate/casematelaw03.IpReads", spec := "ipReads", apart := false, narrowed := true }
def IpReadsUptoSaid : Prop := ipReadsUptoRow.holds Try.pinned (OpenSpec.upto ipReadsSpec)

/-- 'casematelaw03.IpBack', WHERE WHAT IT READS IS OF BULK AT MOST 1048576: true; the input reads as it did. -/
def ipBackUptoRow : OpenClaim := { program := "yteegeckkfdeccaa", sum := "8213f47685a04ed731a0884985fb1eee1ef0629a820d49e25f7f0e60b65d43a1", func := "casemate/casematelaw03.IpBack", spec := "ipBack", apart := false, narrowed := true }
def IpBackUptoSaid : Prop := ipBackUptoRow.holds Try.pinned (OpenSpec.upto ipBackSpec)

/-- 'casematelaw03.IpPuts', WHERE WHAT IT READS IS OF BULK AT MOST 1048576: true; the input reads as it did. -/
def ipPutsUptoRow : OpenClaim := { program := "yteegeckkfdeccaa", sum := "8213f47685a04ed731a0884985fb1eee1ef0629a820d49e25f7f0e60b65d43a1", func := "casemate/casematelaw03.IpPuts", spec := "ipPuts", apart := false, narrowed := true }
def IpPutsUptoSaid : Prop := ipPutsUptoRow.holds Try.pinned (OpenSpec.upto ipPutsSpec)

/-- 'casematelaw06.IcmpAbout', WHERE WHAT IT READS IS OF BULK AT MOST 1048576: true; the input reads as it did. -/
def icmpAboutUptoRow : OpenClaim := { program := "yteegeckkfdeccaa", sum := "8213f47685a04ed731a0884985fb1eee1ef0629a820d49e25f7f0e60b65d43a1", func := "casemate/casematelaw06.IcmpAbout", spec := "icmpAbout", apart := false, narrowed := true }
def IcmpAboutUptoSaid : Prop := icmpAboutUptoRow.holds Try.pinned (OpenSpec.upto icmpAboutSpec)

end Rows
end Go.Proofs.Yteegeckkfdeccaa
