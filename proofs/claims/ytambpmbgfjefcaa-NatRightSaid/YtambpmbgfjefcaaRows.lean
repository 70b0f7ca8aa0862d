/-
  No cell of these rows narrows 'for every input' (looked for: loops, veiled, ifaces, maps, wideKeys, modest, calm, conditions, laid).
  DERIVED. THE GIVEN ROWS OF THIS SEAT. 7 by the template 'for every input the law returns true; each argument reads behind the call as it read before'; 0 by the template 'total and deterministic' (their statements: YtambpmbgfjefcaaTotals.lean).
  GIVEN WITH THE SEED: the statements are not yours to turn. If you find one false, say at which input.
  Laid BY PROGRAM, IN A SANDBOX (cutbox-rows.mjs): the forced cells as the released guide's own fill.sh prints them over the translation 1c3d204214705067… (all of the seat's roots in one cut). By AI agents, Wed Nov 11 2026. No macro, syntax, notation, axiom, sorry.
-/
import Derived.Test.YtambpmbgfjefcaaChecked
import GoSem.Claim
import GoSem.ClaimJoined
import GoSem.ClaimMapViews
import Derived.JoinedTies
import Derived.KernelRfl
namespace Go.Proofs.Ytambpmbgfjefcaa
/- THE CELL 'sum', in the pinned program and in every row, IS THE sha256 OF THE DUMP (.gsa) THAT YtambpmbgfjefcaaProg.lean LOADS. Nothing in Lean hashes anything: it is a label: what it is worth is what the hold of that sum in a sandbox is worth. -/
noncomputable def Try.pinned : Pinned := { name := "ytambpmbgfjefcaa", sum := "1c3d2042147050676d5e0536a16ce701b08436d3d9b9b6a60b37e749e6086da3", checked := Try.checked }
namespace Rows
def none {H : Type} : Left H := { results := [], args := [] }

/-- 'casematelaw16.PoolRight': WHATEVER THE INPUT: true; the input reads as it did. -/
def poolRightSpec : ChangeSpec := { name := "poolRight", fn := fun _ => fun
  | [d1, d2, d3, d4, d5] => { results := [.lit (.bool true)], args := [d1, d2, d3, d4, d5] }
  | _ => none }
def poolRightRow : OpenClaim := { program := "ytambpmbgfjefcaa", sum := "1c3d2042147050676d5e0536a16ce701b08436d3d9b9b6a60b37e749e6086da3", func := "casemate/casematelaw16.PoolRight", spec := "poolRight", apart := false }
def PoolRightSaid : Prop := poolRightRow.holds Try.pinned (OpenSpec.ofChange poolRightSpec)

/-- ITS FALSE NEIGHBOUR: 'it returns false'. Refute it at one input. -/
def poolRightWrong : ChangeSpec := { name := "poolRight", fn := fun _ => fun
  | [d1, d2, d3, d4, d5] => { results := [.lit (.bool false)], args := [d1, d2, d3, d4, d5] }
  | _ => none }
def PoolRightWrongFalsely : Prop := poolRightRow.holds Try.pinned (OpenSpec.ofChange poolRightWrong)

/-- 'casematelaw16.PoolFree': WHATEVER THE INPUT: true; the input reads as it did. -/
def poolFreeSpec : ChangeSpec := { name := "poolFree", fn := fun _ => fun
  | [d1, d2, d3, d4, d5] => { results := [.lit (.bool true)], args := [d1, d2, d3, d4, d5] }
  | _ => none }
def poolFreeRow : OpenClaim := { program := "ytambpmbgfjefcaa", sum := "1c3d2042147050676d5e0536a16ce701b08436d3d9b9b6a60b37e749e6086da3", func := "casemate/casematelaw16.PoolFree", spec := "poolFree", apart := false }
def PoolFreeSaid : Prop := poolFreeRow.holds Try.pinned (OpenSpec.ofChange poolFreeSpec)

/-- ITS FALSE NEIGHBOUR: 'it returns false'. Refute it at one input. -/
def poolFreeWrong : ChangeSpec := { name := "poolFree", fn := fun _ => fun
  | [d1, d2, d3, d4, d5] => { results := [.lit (.bool false)], args := [d1, d2, d3, d4, d5] }
  | _ => none }
def PoolFreeWrongFalsely : Prop := poolFreeRow.holds Try.pinned (OpenSpec.ofChange poolFreeWrong)

/-- 'casematelaw16.PoolDraws': WHATEVER THE INPUT: true; the input reads as it did. -/
def poolDrawsSpec : ChangeSpec := { name := "poolDraws", fn := fun _ => fun
  | [d1, d2, d3, d4] => { results := [.lit (.bool true)], args := [d1, d2, d3, d4] }
  | _ => none }
def poolDrawsRow : OpenClaim := { program := "ytambpmbgfjefcaa", sum := "1c3d2042147050676d5e0536a16ce701b08436d3d9b9b6a60b37e749e6086da3", func := "casemate/casematelaw16.PoolDraws", spec := "poolDraws", apart := false }
def PoolDrawsSaid : Prop := poolDrawsRow.holds Try.pinned (OpenSpec.ofChange poolDrawsSpec)

/-- ITS FALSE NEIGHBOUR: 'it returns false'. Refute it at one input. -/
def poolDrawsWrong : ChangeSpec := { name := "poolDraws", fn := fun _ => fun
  | [d1, d2, d3, d4] => { results := [.lit (.bool false)], args := [d1, d2, d3, d4] }
  | _ => none }
def PoolDrawsWrongFalsely : Prop := poolDrawsRow.holds Try.pinned (OpenSpec.ofChange poolDrawsWrong)

/-- 'casematelaw16.PoolAll': WHATEVER THE INPUT: true; the input reads as it did. -/
def poolAllSpec : ChangeSpec := { name := "poolAll", fn := fun _ => fun
  | [d1, d2, d3, d4] => { results := [.lit (.bool true)], args := [d1, d2, d3, d4] }
  | _ => none }
def poolAllRow : OpenClaim := { program := "ytambpmbgfjefcaa", sum := "1c3d2042147050676d5e0536a16ce701b08436d3d9b9b6a60b37e749e6086da3", func := "casemate/casematelaw16.PoolAll", spec := "poolAll", apart := false }
def PoolAllSaid : Prop := poolAllRow.holds Try.pinned (OpenSpec.ofChange poolAllSpec)

/-- ITS FALSE NEIGHBOUR: 'it returns false'. Refute it at one input. -/
def poolAllWrong : ChangeSpec := { name := "poolAll", fn := fun _ => fun
  | [d1, d2, d3, d4] => { results := [.lit (.bool false)], args := [d1, d2, d3, d4] }
  | _ => none }
def PoolAllWrongFalsely : Prop := poolAllRow.holds Try.pinned (OpenSpec.ofChange poolAllWrong)

/-- 'casematelaw17.NatProto': WHATEVER THE INPUT: true; the input reads as it did. -/
def natProtoSpec : ChangeSpec := { name := "natProto", fn := fun _ => fun
  | [d1, d2, d3, d4, d5] => { results := [.lit (.bool true)], args := [d1, d2, d3, d4, d5] }
  | _ => none }
def natProtoRow : OpenClaim := { program := "ytambpmbgfjefcaa", sum := "1c3d2042147050676d5e0536a16ce701b08436d3d9b9b6a60b37e749e6086da3", func := "casemate/casematelaw17.NatProto", spec := "natProto", unfollowed := true, recurses := true, apart := false }
def NatProtoSaid : Prop := natProtoRow.holds Try.pinned (OpenSpec.ofChange natProtoSpec)

/-- ITS FALSE NEIGHBOUR: 'it returns false'. Refute it at one input. -/
def natProtoWrong : ChangeSpec := { name := "natProto", fn := fun _ => fun
  | [d1, d2, d3, d4, d5] => { results := [.lit (.bool false)], args := [d1, d2, d3, d4, d5] }
  | _ => none }
def NatProtoWrongFalsely : Prop := natProtoRow.holds Try.pinned (OpenSpec.ofChange natProtoWrong)

/-- 'casematelaw17.NatRight': WHATEVER THE INPUT: true; the input reads as it did. -/
def natRightSpec : ChangeSpec := { name := "natRight", fn := fun _ => fun
  | [d1, d2, d3, d4, d5, d6] => { results := [.lit (.bool true)], args := [d1, d2, d3, d4, d5, d6] }
  | _ => none }
def natRightRow : OpenClaim := { program := "ytambpmbgfjefcaa", sum := "1c3d2042147050676d5e0536a16ce701b08436d3d9b9b6a60b37e749e6086da3", func := "casemate/casematelaw17.NatRight", spec := "natRight", unfollowed := true, recurses := true, apart := false }
def NatRightSaid : Prop := natRightRow.holds Try.pinned (OpenSpec.ofChange natRightSpec)

/-- ITS FALSE NEIGHBOUR: 'it returns false'. Refute it at one input. -/
def natRightWrong : ChangeSpec := { name := "natRight", fn := fun _ => fun
  | [d1, d2, d3, d4, d5, d6] => { results := [.lit (.bool false)], args := [d1, d2, d3, d4, d5, d6] }
  | _ => none }
def NatRightWrongFalsely : Prop := natRightRow.holds Try.pinned (OpenSpec.ofChange natRightWrong)

/-- 'casematelaw17.NatOne': WHATEVER THE INPUT: true; the input reads as it did. -/
def natOneSpec : ChangeSpec := { name := "natOne", fn := fun _ => fun
  | [d1, d2, d3] => { results := [.lit (.bool true)], args := [d1, d2, d3] }
  | _ => none }
def natOneRow : OpenClaim := { program := "ytambpmbgfjefcaa", sum := "1c3d2042147050676d5e0536a16ce701b08436d3d9b9b6a60b37e749e6086da3", func := "casemate/casematelaw17.NatOne", spec := "natOne", unfollowed := true, recurses := true, apart := false }
def NatOneSaid : Prop := natOneRow.holds Try.pinned (OpenSpec.ofChange natOneSpec)

/-- ITS FALSE NEIGHBOUR: 'it returns false'. Refute it at one input. -/
def natOneWrong : ChangeSpec := { name := "natOne", fn := fun _ => fun
  | [d1, d2, d3] => { results := [.lit (.bool false)], args := [d1, d2, d3] }
  | _ => none }
def NatOneWrongFalsely : Prop := natOneRow.holds Try.pinned (OpenSpec.ofChange natOneWrong)

/- THE SECOND FORM. 'bulk': how many values and letters a reading holds, each counted each time it is reached (what is shared counts as often as it is met; a slice's spare places count too). A statement '..UptoSaid' is the law's where the arguments, and the package variables that the reading takes, are together of bulk at most 1048576: NARROWER than '..Said'. Prove '..Said' where nothing that the law and all that it calls make is longer than what came in: it says more and counts as full. Else prove '..UptoSaid'. A law counts once. -/
mutual
def uptoBulk {H : Type} : DataW H → Nat
  | .lit (.string bytes) => bytes.length + 1
  | .lit _ => 1
  | .nil => 1
  | .ptr d => uptoBulk d + 1
  | .slice elems spare => uptoBulkAll elems + uptoBulkAll spare + 1
  | .agg parts => uptoBulkAll parts + 1
  | .iface _ d => uptoBulk d + 1
  | .map entries => uptoBulkEntries entries + 1
  | .held _ => 1
def uptoBulkAll {H : Type} : List (DataW H) → Nat
  | [] => 0
  | d :: r => uptoBulk d + uptoBulkAll r
def uptoBulkEntries {H : Type} : List (Lit × DataW H) → Nat
  | [] => 0
  | x :: r => uptoBulkEntry x + uptoBulkEntries r
def uptoBulkEntry {H : Type} : Lit × DataW H → Nat
  | (.string bytes, d) => bytes.length + uptoBulk d + 1
  | (_, d) => uptoBulk d + 1
 end
def uptoSmall : (H : Type) → List (DataW H) → Bool := fun _ ds => decide (uptoBulkAll ds ≤ 1048576)
def OpenSpec.upto (s : _root_.Go.ChangeSpec) : _root_.Go.OpenSpec := { _root_.Go.OpenSpec.ofChange s with cond := some uptoSmall }

/-- 'casematelaw16.PoolRight', WHERE WHAT IT READS IS OF BULK AT MOST 1048576: true; the input reads as it did. -/
def poolRightUptoRow : OpenClaim := { program := "ytambpmbgfjefcaa", sum := "1c3d2042147050676d5e0536a16ce701b08436d3d9b9b6a60b37e749e6086da3", func := "casemate/casematelaw16.PoolRight", spec := "poolRight", apart := false, narrowed := true }
def PoolRightUptoSaid : Prop := poolRightUptoRow.holds Try.pinned (OpenSpec.upto poolRightSpec)

/-- 'casematelaw16.PoolFree', WHERE WHAT IT READS IS OF BULK AT MOST 1048576: true; the input reads as it did. -/
def poolFreeUptoRow : OpenClaim := { program := "ytambpmbgfjefcaa", sum := "1c3d2042147050676d5e0536a16ce701b08436d3d9b9b6a60b37e749e6086da3", func := "casemate/casematelaw16.PoolFree", spec := "poolFree", apart := false, narrowed := true }
def PoolFreeUptoSaid : Prop := poolFreeUptoRow.holds Try.pinned (OpenSpec.upto poolFreeSpec)

/-- 'casematelaw16.PoolDraws', WHERE WHAT IT READS IS OF BULK AT MOST 1048576: true; the input reads as it did. -/
def poolDrawsUptoRow : OpenClaim := { program := "ytambpmbgfjefcaa", sum := "1c3d2042147050676d5e0536a16ce701b08436d3d9b9b6a60b37e749e6086da3", func := "casemate/casematelaw16.PoolDraws", spec := "poolDraws", apart := false, narrowed := true }
def PoolDrawsUptoSaid : Prop := poolDrawsUptoRow.holds Try.pinned (OpenSpec.upto poolDrawsSpec)

/-- 'casematelaw16.PoolAll', WHERE WHAT IT READS IS OF BULK AT MOST 1048576: true; the input reads as it did. -/
def poolAllUptoRow : OpenClaim := { program := "ytambpmbgfjefcaa", sum := "1c3d2042147050676d5e0536a16ce701b08436d3d9b9b6a60b37e749e6086da3", func := "casemate/casematelaw16.PoolAll", spec := "poolAll", apart := false, narrowed := true }
def PoolAllUptoSaid : Prop := poolAllUptoRow.holds Try.pinned (OpenSpec.upto poolAllSpec)

/-- 'casematelaw17.NatProto', WHERE WHAT IT READS IS OF BULK AT MOST 1048576: true; the input reads as it did. -/
def natProtoUptoRow : OpenClaim := { program := "ytambpmbgfjefcaa", sum := "1c3d2042147050676d5e0536a16ce701b08436d3d9b9b6a60b37e749e6086da3", func := "casemate/casematelaw17.NatProto", spec := "natProto", unfollowed := true, recurses := true, apart := false, narrowed := true }
def NatProtoUptoSaid : Prop := natProtoUptoRow.holds Try.pinned (OpenSpec.upto natProtoSpec)

/-- 'casematelaw17.NatRight', WHERE WHAT IT READS IS OF BULK AT MOST 1048576: true; the input reads as it did. -/
def natRightUptoRow : OpenClaim := { program := "ytambpmbgfjefcaa", sum := "1c3d2042147050676d5e0536a16ce701b08436d3d9b9b6a60b37e749e6086da3", func := "casemate/casematelaw17.NatRight", spec := "natRight", unfollowed := true, recurses := true, apart := false, narrowed := true }
def NatRightUptoSaid : Prop := natRightUptoRow.holds Try.pinned (OpenSpec.upto natRightSpec)

/-- 'casematelaw17.NatOne', WHERE WHAT IT READS IS OF BULK AT MOST 1048576: true; the input reads as it did. -/
def natOneUptoRow : OpenClaim := { program := "ytambpmbgfjefcaa", sum := "1c3d2042147050676d5e0536a16ce701b08436d3d9b9b6a60b37e749e6086da3", func := "casemate/casematelaw17.NatOne", spec := "natOne", unfollowed := true, recurses := true, apart := false, narrowed := true }
def NatOneUptoSaid : Prop := natOneUptoRow.holds Try.pinned (OpenSpec.upto natOneSpec)

end Rows
end Go.Proofs.Ytambpmbgfjefcaa
