/- The contracts of the reference of layer 2: its sum is the program's. -/
import Derived.Test.YtcnhlbkdhhjmiaaGreatDoorCsum
import Derived.Test.YtcnhlbkdhhjmiaaGreatDoorOwn
set_option linter.unusedVariables false
set_option maxRecDepth 100000
set_option linter.unusedSimpArgs false
namespace Go.Proofs.YtcnhlbkdhhjmiaaGreatDoor
open Go.RowKit
def joinI (a b : Int) : Int := if 65535 < a + b then a + b - 65535 else a + b
theorem joinI_bd {a b : Int} (ha : 0 ≤ a ∧ a ≤ 65535) (hb : 0 ≤ b ∧ b ≤ 65535) : 0 ≤ joinI a b ∧ joinI a b ≤ 65535 := by unfold joinI; split <;> omega
theorem joinI_fold {n b : Int} (hn : 0 ≤ n) (hb : 0 ≤ b ∧ b ≤ 65535) : joinI (foldI n) b = foldI (n + b) := by
  unfold joinI foldI
  by_cases h0 : n = 0
  · subst h0
    simp only [if_true]
    by_cases h1 : b = 0
    · subst h1; rfl
    · rw [if_neg (by omega : ¬ (65535 < 0 + b)), if_neg (by omega : ¬ (0 + b = 0))]; omega
  · rw [if_neg h0, if_neg (by omega : ¬ (n + b = 0))]
    split <;> omega
/-- The word at a place. -/
def wordAt (xs : Nat → Int) (l : Nat) (j : Nat) : Int := xs (2 * j) * 256 + if 2 * j + 1 < l then xs (2 * j + 1) else 0
def wordsL (xs : Nat → Int) (l k : Nat) : List Value := (List.range k).map fun j => Value.int .u16 (wordAt xs l j)
theorem wordsL_succ (xs : Nat → Int) (l k : Nat) : wordsL xs l k ++ [Value.int .u16 (wordAt xs l k)] = wordsL xs l (k + 1) := by
  simp [wordsL, List.range_succ]
theorem words_end (W0 : World) (xs : Nat → Int) (l k : Nat) (t : TypeId) (oa : Option Addr) (cap : Nat) (w : World) (v : Int) (hv : v = wordAt xs l k)
    (h : Own W0.heap.size w t 1 oa cap (k + 1) (wordsL xs l k ++ [Value.int .u16 v])) : Own W0.heap.size w t 1 oa cap (k + 1) (wordsL xs l (k + 1)) := by
  subst hv; rw [wordsL_succ] at h; exact h
/-- The reference adds word by word. -/
theorem rawN_even (xs : Nat → Int) (l : Nat) : ∀ k, 2 * k ≤ l → rawN xs (2 * k) = ((List.range k).map (wordAt xs l)).sum
  | 0, _ => rfl
  | k + 1, h => by
    have h1 := rawN_even xs l k (by omega)
    rw [List.range_succ, List.map_append, List.sum_append, ← h1]
    have e : rawN xs (2 * (k + 1)) = rawN xs (2 * k) + xs (2 * k) * 256 + xs (2 * k + 1) := by
      show rawN xs (2 * k + 1 + 1) = _
      simp only [rawN]
      rw [if_pos (by omega), if_neg (by omega)]
    rw [e]
    simp [wordAt]
    rw [if_pos (by omega)]
    omega
def partSum (xs : Nat → Int) (l k : Nat) : Int := ((List.range k).map (wordAt xs l)).sum
theorem partSum_succ (xs : Nat → Int) (l k : Nat) : partSum xs l (k + 1) = partSum xs l k + wordAt xs l k := by
  unfold partSum; rw [List.range_succ, List.map_append, List.sum_append]; simp
theorem partSum_end (xs : Nat → Int) (l : Nat) : partSum xs l ((l + 1) / 2) = rawN xs l := by
  by_cases he : l % 2 = 0
  · have : (l + 1) / 2 = l / 2 := by omega
    rw [this]
    have h := rawN_even xs l (l / 2) (by omega)
    rw [show 2 * (l / 2) = l from by omega] at h
    exact h.symm
  · have : (l + 1) / 2 = l / 2 + 1 := by omega
    rw [this, partSum_succ]
    have h := rawN_even xs l (l / 2) (by omega)
    have e : rawN xs l = rawN xs (2 * (l / 2)) + xs (2 * (l / 2)) * 256 := by
      have : l = 2 * (l / 2) + 1 := by omega
      rw [this]
      simp only [rawN]
      rw [if_pos (by omega), show (2 * (l / 2) + 1) / 2 = l / 2 from by omega]
    rw [e, h]
    unfold partSum wordAt
    rw [if_neg (by omega : ¬ (2 * (l / 2) + 1 < l))]
    omega
theorem wordAt_bd (xs : Nat → Int) (l j : Nat) (hx : ∀ i, i < l → 0 ≤ xs i ∧ xs i ≤ 255) (hj : 2 * j < l) : 0 ≤ wordAt xs l j ∧ wordAt xs l j ≤ 65535 := by
  have h1 := hx _ hj
  unfold wordAt
  split
  · have := hx _ ‹_›; omega
  · omega
theorem partSum_bd (xs : Nat → Int) (l : Nat) (hx : ∀ i, i < l → 0 ≤ xs i ∧ xs i ≤ 255) : ∀ k, 2 * k ≤ l + 1 → 0 ≤ partSum xs l k
  | 0, _ => by simp [partSum]
  | k + 1, h => by
    have h1 := partSum_bd xs l hx k (by omega)
    have h2 := wordAt_bd xs l k hx (by omega)
    rw [partSum_succ]; omega
theorem wordsL_ints (xs : Nat → Int) (l k : Nat) : wordsL xs l k = ((List.range k).map (wordAt xs l)).map (Value.int .u16) := by simp [wordsL]
/-- Same: are two lists of bytes the same? -/
def sameN (xs ys : Nat → Int) (l m : Nat) : Bool := decide (l = m ∧ ∀ i, i < l → xs i = ys i)
end Go.Proofs.YtcnhlbkdhhjmiaaGreatDoor
