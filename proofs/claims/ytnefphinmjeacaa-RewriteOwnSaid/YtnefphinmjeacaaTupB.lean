/- tuple.side, raw. -/
import Derived.Test.YtnefphinmjeacaaTupA
set_option linter.unusedVariables false
set_option maxRecDepth 100000
set_option linter.unusedSimpArgs false
namespace Go.Proofs.Ytnefphinmjeacaa
open Go.RowKit
/-- What an appending call hands back: the slice, the call's own still, with so many bytes more. -/
def GrewM (W0 : World) (n : Nat) (xs : List Value) (e : Ending) (w' : World) : Prop :=
  ∃ oa cap, e = .returned (.slice oa n cap) ∧ Junk W0 w' ∧ Own W0.heap.size w' 5 1 oa cap n xs
end Go.Proofs.Ytnefphinmjeacaa
