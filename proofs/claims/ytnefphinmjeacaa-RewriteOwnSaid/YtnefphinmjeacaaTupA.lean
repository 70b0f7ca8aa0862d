/- The contracts of tuple's small functions, and of their references. -/
import Derived.Test.YtnefphinmjeacaaTupP
import Derived.Test.YtnefphinmjeacaaIcmpPut
set_option linter.unusedVariables false
set_option maxRecDepth 100000
set_option linter.unusedSimpArgs false
namespace Go.Proofs.Ytnefphinmjeacaa
open Go.RowKit
theorem tmod_low {n m : Int} (hm : 0 < m) : (if n.tmod m < 0 then n.tmod m + m else n.tmod m) = n % m := by
  have h1 := Int.emod_nonneg n (by omega : m ≠ 0)
  have h2 := Int.emod_lt_of_pos n hm
  rw [Int.tmod_eq_emod]
  split <;> split <;> simp_all <;> omega
end Go.Proofs.Ytnefphinmjeacaa
