/- The law IcmpLaid: what is put has a sum that fits, its type and code ahead, and its body behind eight bytes. -/
import Derived.Test.YtbijbcpalmepiaaIcmpAwake
import Derived.Test.YtbijbcpalmepiaaLift2
set_option linter.unusedVariables false
set_option maxRecDepth 100000
set_option linter.unusedSimpArgs false
namespace Go.Proofs.Ytbijbcpalmepiaa
open Go.RowKit
theorem putB_raw (t c r : Int) (xs : Nat → Int) (l : Nat) : ∀ k, rawN (putB t c r xs l) (4 + k) = rawN (preB t c r xs) (4 + k) + putSum t c r xs l
  | 0 => by
    show rawN (putB t c r xs l) 4 = rawN (preB t c r xs) 4 + _
    simp [rawN, putB, preB]
    omega
  | k + 1 => by
    have h := putB_raw t c r xs l k
    show rawN (putB t c r xs l) ((4 + k) + 1) = rawN (preB t c r xs) ((4 + k) + 1) + _
    simp only [rawN]
    rw [h]
    have e : putB t c r xs l (4 + k) = preB t c r xs (4 + k) := by unfold putB; rw [if_neg (by omega), if_neg (by omega)]
    rw [e]
    omega
theorem fold_fits {n : Int} (h : 0 ≤ n) : foldI (n + (65535 - foldI n)) = 65535 := by
  by_cases h0 : n = 0
  · subst h0; decide
  · unfold foldI
    rw [if_neg h0, if_neg (by omega)]
    omega
theorem putB_fits {t c r : Int} {xs : Nat → Int} {l : Nat} (hp : ∀ i, i < 8 + l → 0 ≤ preB t c r xs i ∧ preB t c r xs i ≤ 255) : sumN (putB t c r xs l) (8 + l) = 65535 := by
  have h := putB_raw t c r xs l (4 + l)
  rw [show 4 + (4 + l) = 8 + l from by omega] at h
  unfold sumN
  rw [h]
  exact fold_fits (rawN_bd _ _ hp).1
theorem asks_only (t : Int) : (asksB t = true ∧ answersB t = false ∧ errorB t = false) ∨ (asksB t = false ∧ answersB t = true ∧ errorB t = false) ∨ (asksB t = false ∧ answersB t = false) := by
  simp only [asksB, answersB, errorB, decide_eq_true_eq, decide_eq_false_iff_not]
  omega
theorem putErr_zero {t c : Int} {l : Nat} (h : putErr t c l = 0) : (0 ≤ t ∧ t ≤ 255) ∧ (0 ≤ c ∧ c ≤ 255) := by
  unfold putErr at h
  split at h
  · rename_i h1
    simp only [Bool.and_eq_true, byteful, decide_eq_true_eq] at h1
    exact ⟨h1.1.1, h1.1.2⟩
  · cases h
theorem bts_sub' {w : World} {oa : Option Addr} {n c : Nat} {xs : Nat → Int} (h : Bts w oa n c xs) (i l : Nat) (hij : i ≤ l) (hj : l ≤ n) (b off : Nat) (ho : oa = some ⟨b, off, none⟩) :
    Bts w (if c = i then some ⟨b, off, none⟩ else some ⟨b, off + i, none⟩) (l - i) (c - i) (fun k => xs (i + k)) := by
  subst ho; exact bts_sub h i l hij hj
end Go.Proofs.Ytbijbcpalmepiaa
