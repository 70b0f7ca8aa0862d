/- The contract of the reference's Parse. -/
import Derived.Test.YtnefphinmjeacaaIpRef
import Derived.Outline
set_option linter.unusedVariables false
set_option maxRecDepth 100000
set_option linter.unusedSimpArgs false
namespace Go.Proofs.Ytnefphinmjeacaa
open Go.RowKit
theorem parseErr_len {xs : Nat → Int} {l : Nat} {n : Int} (h : lenErr xs l = n) (hn : n ≠ 0) : parseErr xs l = n := by
  unfold parseErr; rw [h, if_pos hn]
/-- The words of a head. -/
theorem word_at (xs : Nat → Int) (j : Nat) (hj : j < 10) : (wordsL xs 20 10)[j]? = some (.int .u16 (xs (2 * j) * 256 + xs (2 * j + 1))) := by
  unfold wordsL
  rw [List.getElem?_map, List.getElem?_range hj]
  simp only [Option.map_some, wordAt]
  rw [if_pos (by omega)]
end Go.Proofs.Ytnefphinmjeacaa
