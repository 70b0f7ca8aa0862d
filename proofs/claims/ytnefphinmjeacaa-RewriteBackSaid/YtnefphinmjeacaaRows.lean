/-
  No cell of these rows narrows 'for every input' (looked for: loops, veiled, ifaces, maps, wideKeys, modest, calm, conditions, laid).
  DERIVED. THE GIVEN ROWS OF THIS SEAT. 7 by the template 'for every input the law returns true; each argument reads behind the call as it read before'; 0 by the template 'total and deterministic' (their statements: YtnefphinmjeacaaTotals.lean).
  GIVEN WITH THE SEED: the statements are not yours to turn. If you find one false, say at which input.
  Laid BY PROGRAM, IN A SANDBOX (cutbox-rows.mjs): the forced cells as the released guide's own fill.sh prints them over the translation 12f23d0e52618bf7… (all of the seat's roots in one cut). By AI agents, Wed Nov 11 2026. No macro, syntax, notation, axiom, sorry.
-/
import Derived.Test.YtnefphinmjeacaaChecked
import GoSem.Claim
import GoSem.ClaimJoined
import GoSem.ClaimMapViews
import Derived.JoinedTies
import Derived.KernelRfl
namespace Go.Proofs.Ytnefphinmjeacaa
/- THE CELL 'sum', in the pinned program and in every row, IS THE sha256 OF THE DUMP (.gsa) THAT YtnefphinmjeacaaProg.lean LOADS. Nothing in Lean hashes anything: it is a label: what it is worth is what the hold of that sum in a sandbox is worth. -/
noncomputable def Try.pinned : Pinned := { name := "ytnefphinmjeacaa", sum := "12f23d0e52618bf7b1bfc4a3aa6b5764fe3fd1c03a547bc67cdcd05c0dedb3cc", checked := Try.checked }
namespace Rows
def none {H : Type} : Left H := { results := [], args := [] }

/-- 'casematelaw26.ErrorRight': WHATEVER THE INPUT: true; the input reads as it did. -/
def errorRightSpec : ChangeSpec := { name := "errorRight", fn := fun _ => fun
  | [d1, d2, d3] => { results := [.lit (.bool true)], args := [d1, d2, d3] }
  | _ => none }
def errorRightRow : OpenClaim := { program := "ytnefphinmjeacaa", sum := "12f23d0e52618bf7b1bfc4a3aa6b5764fe3fd1c03a547bc67cdcd05c0dedb3cc", func := "casemate/casematelaw26.ErrorRight", spec := "errorRight", apart := false }
def ErrorRightSaid : Prop := errorRightRow.holds Try.pinned (OpenSpec.ofChange errorRightSpec)

/-- ITS FALSE NEIGHBOUR: 'it returns false'. Refute it at one input. -/
def errorRightWrong : ChangeSpec := { name := "errorRight", fn := fun _ => fun
  | [d1, d2, d3] => { results := [.lit (.bool false)], args := [d1, d2, d3] }
  | _ => none }
def ErrorRightWrongFalsely : Prop := errorRightRow.holds Try.pinned (OpenSpec.ofChange errorRightWrong)

/-- 'casematelaw26.ErrorInner': WHATEVER THE INPUT: true; the input reads as it did. -/
def errorInnerSpec : ChangeSpec := { name := "errorInner", fn := fun _ => fun
  | [d1, d2, d3, d4] => { results := [.lit (.bool true)], args := [d1, d2, d3, d4] }
  | _ => none }
def errorInnerRow : OpenClaim := { program := "ytnefphinmjeacaa", sum := "12f23d0e52618bf7b1bfc4a3aa6b5764fe3fd1c03a547bc67cdcd05c0dedb3cc", func := "casemate/casematelaw26.ErrorInner", spec := "errorInner", apart := false }
def ErrorInnerSaid : Prop := errorInnerRow.holds Try.pinned (OpenSpec.ofChange errorInnerSpec)

/-- ITS FALSE NEIGHBOUR: 'it returns false'. Refute it at one input. -/
def errorInnerWrong : ChangeSpec := { name := "errorInner", fn := fun _ => fun
  | [d1, d2, d3, d4] => { results := [.lit (.bool false)], args := [d1, d2, d3, d4] }
  | _ => none }
def ErrorInnerWrongFalsely : Prop := errorInnerRow.holds Try.pinned (OpenSpec.ofChange errorInnerWrong)

/-- 'casematelaw26.ErrorKeeps': WHATEVER THE INPUT: true; the input reads as it did. -/
def errorKeepsSpec : ChangeSpec := { name := "errorKeeps", fn := fun _ => fun
  | [d1, d2, d3, d4] => { results := [.lit (.bool true)], args := [d1, d2, d3, d4] }
  | _ => none }
def errorKeepsRow : OpenClaim := { program := "ytnefphinmjeacaa", sum := "12f23d0e52618bf7b1bfc4a3aa6b5764fe3fd1c03a547bc67cdcd05c0dedb3cc", func := "casemate/casematelaw26.ErrorKeeps", spec := "errorKeeps", apart := false }
def ErrorKeepsSaid : Prop := errorKeepsRow.holds Try.pinned (OpenSpec.ofChange errorKeepsSpec)

/-- ITS FALSE NEIGHBOUR: 'it returns false'. Refute it at one input. -/
def errorKeepsWrong : ChangeSpec := { name := "errorKeeps", fn := fun _ => fun
  | [d1, d2, d3, d4] => { results := [.lit (.bool false)], args := [d1, d2, d3, d4] }
  | _ => none }
def ErrorKeepsWrongFalsely : Prop := errorKeepsRow.holds Try.pinned (OpenSpec.ofChange errorKeepsWrong)

/-- 'casematelaw25.RewriteBack': WHATEVER THE INPUT: true; the input reads as it did. -/
def rewriteBackSpec : ChangeSpec := { name := "rewriteBack", fn := fun _ => fun
  | [d1, d2] => { results := [.lit (.bool true)], args := [d1, d2] }
  | _ => none }
def rewriteBackRow : OpenClaim := { program := "ytnefphinmjeacaa", sum := "12f23d0e52618bf7b1bfc4a3aa6b5764fe3fd1c03a547bc67cdcd05c0dedb3cc", func := "casemate/casematelaw25.RewriteBack", spec := "rewriteBack", unfollowed := true, recurses := true, apart := false }
def RewriteBackSaid : Prop := rewriteBackRow.holds Try.pinned (OpenSpec.ofChange rewriteBackSpec)

/-- ITS FALSE NEIGHBOUR: 'it returns false'. Refute it at one input. -/
def rewriteBackWrong : ChangeSpec := { name := "rewriteBack", fn := fun _ => fun
  | [d1, d2] => { results := [.lit (.bool false)], args := [d1, d2] }
  | _ => none }
def RewriteBackWrongFalsely : Prop := rewriteBackRow.holds Try.pinned (OpenSpec.ofChange rewriteBackWrong)

/-- 'casematelaw25.RewriteOwn': WHATEVER THE INPUT: true; the input reads as it did. -/
def rewriteOwnSpec : ChangeSpec := { name := "rewriteOwn", fn := fun _ => fun
  | [d1, d2, d3, d4, d5] => { results := [.lit (.bool true)], args := [d1, d2, d3, d4, d5] }
  | _ => none }
def rewriteOwnRow : OpenClaim := { program := "ytnefphinmjeacaa", sum := "12f23d0e52618bf7b1bfc4a3aa6b5764fe3fd1c03a547bc67cdcd05c0dedb3cc", func := "casemate/casematelaw25.RewriteOwn", spec := "rewriteOwn", unfollowed := true, recurses := true, apart := false }
def RewriteOwnSaid : Prop := rewriteOwnRow.holds Try.pinned (OpenSpec.ofChange rewriteOwnSpec)

/-- ITS FALSE NEIGHBOUR: 'it returns false'. Refute it at one input. -/
def rewriteOwnWrong : ChangeSpec := { name := "rewriteOwn", fn := fun _ => fun
  | [d1, d2, d3, d4, d5] => { results := [.lit (.bool false)], args := [d1, d2, d3, d4, d5] }
  | _ => none }
def RewriteOwnWrongFalsely : Prop := rewriteOwnRow.holds Try.pinned (OpenSpec.ofChange rewriteOwnWrong)

/-- 'casematelaw25.RewriteFits': WHATEVER THE INPUT: true; the input reads as it did. -/
def rewriteFitsSpec : ChangeSpec := { name := "rewriteFits", fn := fun _ => fun
  | [d1, d2] => { results := [.lit (.bool true)], args := [d1, d2] }
  | _ => none }
def rewriteFitsRow : OpenClaim := { program := "ytnefphinmjeacaa", sum := "12f23d0e52618bf7b1bfc4a3aa6b5764fe3fd1c03a547bc67cdcd05c0dedb3cc", func := "casemate/casematelaw25.RewriteFits", spec := "rewriteFits", unfollowed := true, recurses := true, apart := false }
def RewriteFitsSaid : Prop := rewriteFitsRow.holds Try.pinned (OpenSpec.ofChange rewriteFitsSpec)

/-- ITS FALSE NEIGHBOUR: 'it returns false'. Refute it at one input. -/
def rewriteFitsWrong : ChangeSpec := { name := "rewriteFits", fn := fun _ => fun
  | [d1, d2] => { results := [.lit (.bool false)], args := [d1, d2] }
  | _ => none }
def RewriteFitsWrongFalsely : Prop := rewriteFitsRow.holds Try.pinned (OpenSpec.ofChange rewriteFitsWrong)

/-- 'casematelaw26.ErrorTells': WHATEVER THE INPUT: true; the input reads as it did. -/
def errorTellsSpec : ChangeSpec := { name := "errorTells", fn := fun _ => fun
  | [d1, d2, d3] => { results := [.lit (.bool true)], args := [d1, d2, d3] }
  | _ => none }
def errorTellsRow : OpenClaim := { program := "ytnefphinmjeacaa", sum := "12f23d0e52618bf7b1bfc4a3aa6b5764fe3fd1c03a547bc67cdcd05c0dedb3cc", func := "casemate/casematelaw26.ErrorTells", spec := "errorTells", unfollowed := true, recurses := true, apart := false }
def ErrorTellsSaid : Prop := errorTellsRow.holds Try.pinned (OpenSpec.ofChange errorTellsSpec)

/-- ITS FALSE NEIGHBOUR: 'it returns false'. Refute it at one input. -/
def errorTellsWrong : ChangeSpec := { name := "errorTells", fn := fun _ => fun
  | [d1, d2, d3] => { results := [.lit (.bool false)], args := [d1, d2, d3] }
  | _ => none }
def ErrorTellsWrongFalsely : Prop := errorTellsRow.holds Try.pinned (OpenSpec.ofChange errorTellsWrong)

/- THE SECOND FORM. 'bulk': how many values and letters a reading holds, each counted each time it is reached (what is shared counts as often as it is met; a slice's spare places count too). A statement '..UptoSaid' is the law's where the arguments, and the package variables that the reading takes, are together of bulk at most 1048576: NARROWER than '..Said'. Prove '..Said' where nothing that the law and all that it calls make is longer than what came in: it says more and counts as full. Else prove '..UptoSaid'. A law counts once. -/
mutual
def uptoBulk {H : Type} : DataW H → Nat
  | .lit (.string bytes) => bytes.length + 1
  | .lit _ => 1
  | .nil => 1
  | .ptr d => uptoBulk d + 1
  | .slice elems spare => uptoBulkAll elems + uptoBulkAll spare + 1
  | .agg parts => uptoBulkAll parts + 1
  | .iface _ d => uptoBulk d + 1
  | .map entries => uptoBulkEntries entries + 1
  | .held _ => 1
def uptoBulkAll {H : Type} : List (DataW H) → Nat
  | [] => 0
  | d :: r => uptoBulk d + uptoBulkAll r
def uptoBulkEntries {H : Type} : List (Lit × DataW H) → Nat
  | [] => 0
  | x :: r => uptoBulkEntry x + uptoBulkEntries r
def uptoBulkEntry {H : Type} : Lit × DataW H → Nat
  | (.string bytes, d) => bytes.length + uptoBulk d + 1
  | (_, d) => uptoBulk d + 1
 end
def uptoSmall : (H : Type) → List (DataW H) → Bool := fun _ ds => decide (uptoBulkAll ds ≤ 1048576)
def OpenSpec.upto (s : _root_.Go.ChangeSpec) : _root_.Go.OpenSpec := { _root_.Go.OpenSpec.ofChange s with cond := some uptoSmall }

/-- 'casematelaw26.ErrorRight', WHERE WHAT IT READS IS OF BULK AT MOST 1048576: true; the input reads as it did. -/
def errorRightUptoRow : OpenClaim := { program := "ytnefphinmjeacaa", sum := "12f23d0e52618bf7b1bfc4a3aa6b5764fe3fd1c03a547bc67cdcd05c0dedb3cc", func := "casemate/casematelaw26.ErrorRight", spec := "errorRight", apart := false, narrowed := true }
def ErrorRightUptoSaid : Prop := errorRightUptoRow.holds Try.pinned (OpenSpec.upto errorRightSpec)

/-- 'casematelaw26.ErrorInner', WHERE WHAT IT READS IS OF BULK AT MOST 1048576: true; the input reads as it did. -/
def errorInnerUptoRow : OpenClaim := { program := "ytnefphinmjeacaa", sum := "12f23d0e52618bf7b1bfc4a3aa6b5764fe3fd1c03a547bc67cdcd05c0dedb3cc", func := "casemate/casematelaw26.ErrorInner", spec := "errorInner", apart := false, narrowed := true }
def ErrorInnerUptoSaid : Prop := errorInnerUptoRow.holds Try.pinned (OpenSpec.upto errorInnerSpec)

/-- 'casematelaw26.ErrorKeeps', WHERE WHAT IT READS IS OF BULK AT MOST 1048576: true; the input reads as it did. -/
def errorKeepsUptoRow : OpenClaim := { program := "ytnefphinmjeacaa", sum := "12f23d0e52618bf7b1bfc4a3aa6b5764fe3fd1c03a547bc67cdcd05c0dedb3cc", func := "casemate/casematelaw26.ErrorKeeps", spec := "errorKeeps", apart := false, narrowed := true }
def ErrorKeepsUptoSaid : Prop := errorKeepsUptoRow.holds Try.pinned (OpenSpec.upto errorKeepsSpec)

/-- 'casematelaw25.RewriteBack', WHERE WHAT IT READS IS OF BULK AT MOST 1048576: true; the input reads as it did. -/
def rewriteBackUptoRow : OpenClaim := { program := "ytnefphinmjeacaa", sum := "12f23d0e52618bf7b1bfc4a3aa6b5764fe3fd1c03a547bc67cdcd05c0dedb3cc", func := "casemate/casematelaw25.RewriteBack", spec := "rewriteBack", unfollowed := true, recurses := true, apart := false, narrowed := true }
def RewriteBackUptoSaid : Prop := rewriteBackUptoRow.holds Try.pinned (OpenSpec.upto rewriteBackSpec)

/-- 'casematelaw25.RewriteOwn', WHERE WHAT IT READS IS OF BULK AT MOST 1048576: true; the input reads as it did. -/
def rewriteOwnUptoRow : OpenClaim := { program := "ytnefphinmjeacaa", sum := "12f23d0e52618bf7b1bfc4a3aa6b5764fe3fd1c03a547bc67cdcd05c0dedb3cc", func := "casemate/casematelaw25.RewriteOwn", spec := "rewriteOwn", unfollowed := true, recurses := true, apart := false, narrowed := true }
def RewriteOwnUptoSaid : Prop := rewriteOwnUptoRow.holds Try.pinned (OpenSpec.upto rewriteOwnSpec)

/-- 'casematelaw25.RewriteFits', WHERE WHAT IT READS IS OF BULK AT MOST 1048576: true; the input reads as it did. -/
def rewriteFitsUptoRow : OpenClaim := { program := "ytnefphinmjeacaa", sum := "12f23d0e52618bf7b1bfc4a3aa6b5764fe3fd1c03a547bc67cdcd05c0dedb3cc", func := "casemate/casematelaw25.RewriteFits", spec := "rewriteFits", unfollowed := true, recurses := true, apart := false, narrowed := true }
def RewriteFitsUptoSaid : Prop := rewriteFitsUptoRow.holds Try.pinned (OpenSpec.upto rewriteFitsSpec)

/-- 'casematelaw26.ErrorTells', WHERE WHAT IT READS IS OF BULK AT MOST 1048576: true; the input reads as it did. -/
def errorTellsUptoRow : OpenClaim := { program := "ytnefphinmjeacaa", sum := "12f23d0e52618bf7b1bfc4a3aa6b5764fe3fd1c03a547bc67cdcd05c0dedb3cc", func := "casemate/casematelaw26.ErrorTells", spec := "errorTells", unfollowed := true, recurses := true, apart := false, narrowed := true }
def ErrorTellsUptoSaid : Prop := errorTellsUptoRow.holds Try.pinned (OpenSpec.upto errorTellsSpec)

end Rows
end Go.Proofs.Ytnefphinmjeacaa
