/- The contract of the reference's Same, of two packets that hold the same. -/
import Derived.Test.YtfkhnhenemgcmaaDoorIpRef
set_option linter.unusedVariables false
set_option maxRecDepth 100000
set_option linter.unusedSimpArgs false
namespace Go.Proofs.YtfkhnhenemgcmaaDoor
open Go.RowKit
end Go.Proofs.YtfkhnhenemgcmaaDoor
