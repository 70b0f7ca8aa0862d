/- The contracts of package csum. -/
import Derived.Test.YtcnhlbkdhhjmiaaGreatDoorLift
import Derived.Test.YtcnhlbkdhhjmiaaGreatDoorMix
import Derived.Test.YtcnhlbkdhhjmiaaGreatDoorBits
import Derived.Lib.Hide
set_option linter.unusedVariables false
set_option maxRecDepth 100000
set_option linter.unusedSimpArgs false
namespace Go.Proofs.YtcnhlbkdhhjmiaaGreatDoor
open Go.RowKit
/-- What is left of a sum when all above 16 bits is folded in. -/
def foldI (n : Int) : Int := if n = 0 then 0 else (n - 1) % 65535 + 1
theorem foldI_step {m : Int} (h : 0 ≤ m) : foldI (m % 65536 + m / 65536) = foldI m := by
  unfold foldI
  by_cases h0 : m = 0
  · subst h0; rfl
  · rw [if_neg h0, if_neg (by omega)]; omega
theorem foldI_small {m : Int} (h : 0 ≤ m) (h2 : m < 65536) : foldI m = m := by
  unfold foldI; split <;> omega
theorem foldI_bd (n : Int) (h : 0 ≤ n) : 0 ≤ foldI n ∧ foldI n ≤ 65535 := by unfold foldI; split <;> omega
/-- The bytes' words, added. -/
def rawN (xs : Nat → Int) : Nat → Int
  | 0 => 0
  | k + 1 => rawN xs k + if k % 2 = 0 then xs k * 256 else xs k
theorem rawN_bd (xs : Nat → Int) : ∀ k, (∀ i, i < k → 0 ≤ xs i ∧ xs i ≤ 255) → 0 ≤ rawN xs k ∧ rawN xs k ≤ 65280 * k
  | 0, _ => by simp [rawN]
  | k + 1, h => by
    have h1 := rawN_bd xs k (fun i hi => h i (by omega))
    have h2 := h k (by omega)
    simp only [rawN]
    split <;> omega
def sumN (xs : Nat → Int) (n : Nat) : Int := foldI (rawN xs n)
theorem sumN_bd (xs : Nat → Int) (n : Nat) (h : ∀ i, i < n → 0 ≤ xs i ∧ xs i ≤ 255) : 0 ≤ sumN xs n ∧ sumN xs n ≤ 65535 := foldI_bd _ (rawN_bd xs n h).1
end Go.Proofs.YtcnhlbkdhhjmiaaGreatDoor
