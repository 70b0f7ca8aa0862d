/- The table of powers of ten out of a row's condition. -/
import Derived.Test.YtfkhnhenemgcmaaDoorDuR
import Derived.Test.YtfkhnhenemgcmaaDoorLift2
import Derived.Test.YtfkhnhenemgcmaaDoorRows
import Derived.Test.YtfkhnhenemgcmaaDoorTie
import Derived.Test.YtfkhnhenemgcmaaDoorCards
import Derived.SevenTiedAt
import Derived.LaidMore
import Derived.Stop.Joined
import Derived.Stop.LaidErr
set_option linter.unusedVariables false
set_option maxRecDepth 100000
set_option linter.unusedSimpArgs false
namespace Go.Proofs.YtfkhnhenemgcmaaDoor
open Go.RowKit Go.ChangeShapes Go.WideShapes Go.ChangeAt Go.WideMaps Go.WideElems
theorem pow_of {W : World} (h : laidMetH Tryd.prog Rows.dumpRightRow.laid W) : PowT W := by
  rw [MakeChecks.laidMetH_plain _ _ _ (by kernel_rfl)] at h
  have h2 : laidMet Tryd.prog [("internal/strconv.uint64pow10", Lib.tabData .u64 Lib.pow10Tab)] W := laidMet.tail (laidMet.tail h)
  exact Lib.tabIs_of_head (g := 0) (t := 127) (e := 100) (n := 20) (by kernel_rfl) (by kernel_rfl) Tryd.underlying127 Tryd.underlying100 (by kernel_rfl) (by kernel_rfl) h2
end Go.Proofs.YtfkhnhenemgcmaaDoor
