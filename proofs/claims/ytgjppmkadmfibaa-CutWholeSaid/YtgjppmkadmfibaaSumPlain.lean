/- Plain facts on sums of bytes. -/
import Derived.Test.YtgjppmkadmfibaaTcpC
import Derived.Test.YtgjppmkadmfibaaCsum
set_option linter.unusedVariables false
set_option maxRecDepth 100000
set_option linter.unusedSimpArgs false
namespace Go.Proofs.Ytgjppmkadmfibaa
open Go.RowKit
theorem calls_gen {P : Program} {f : FuncId} {args : Array Value} {w : World} {os : Array Obj} {d : Nat} {R : Ending → World → Prop} (h : ∀ os d, Calls P f args (w.junk os d) R) : Calls P f args (w.junk os d) R := h os d
theorem foldI_full {n : Int} (h : 0 ≤ n) : foldI (n + (65535 - foldI n)) = 65535 := by
  by_cases h0 : n = 0
  · subst h0; decide
  · unfold foldI
    rw [if_neg h0, if_neg (by omega)]
    omega
theorem foldI_iff {n : Int} (h : 0 ≤ n) : foldI n = 65535 ↔ 0 < n ∧ n % 65535 = 0 := by
  unfold foldI
  split <;> omega
/-- One byte changed. -/
theorem rawN_upd (xs : Nat → Int) (k : Nat) (v : Int) : ∀ n, rawN (upd xs k v) n = rawN xs n + if k < n then (if k % 2 = 0 then (v - xs k) * 256 else v - xs k) else 0
  | 0 => by simp [rawN]
  | n + 1 => by
    have h := rawN_upd xs k v n
    simp only [rawN]
    rw [h]
    by_cases hk : n = k
    · subst hk
      rw [upd_same]
      simp only [Nat.lt_irrefl, if_false, Nat.lt_succ_self, if_true]
      split <;> omega
    · rw [upd_other _ _ _ _ hk]
      by_cases hlt : k < n
      · rw [if_pos hlt, if_pos (show k < n + 1 by omega)]; exact Int.add_right_comm _ _ _
      · rw [if_neg hlt, if_neg (show ¬ k < n + 1 by omega)]; exact Int.add_right_comm _ _ _
theorem rawN_congr {xs ys : Nat → Int} : ∀ n, (∀ i, i < n → xs i = ys i) → rawN xs n = rawN ys n
  | 0, _ => rfl
  | n + 1, h => by
    simp only [rawN]
    rw [rawN_congr n (fun i hi => h i (by omega)), h n (by omega)]
theorem sumN_congr {xs ys : Nat → Int} {n : Nat} (h : ∀ i, i < n → xs i = ys i) : sumN xs n = sumN ys n := by unfold sumN; rw [rawN_congr n h]
theorem sumN_spoilt {xs : Nat → Int} {n k : Nat} {v : Int} (hx : ∀ i, i < n → 0 ≤ xs i ∧ xs i ≤ 255) (hv : 0 ≤ v ∧ v ≤ 255) (hk : k < n) (hne : v ≠ xs k) (h : sumN xs n = 65535) : sumN (upd xs k v) n ≠ 65535 := by
  have h1 := rawN_bd xs n hx
  have h2 := rawN_bd (upd xs k v) n (fun i hi => by unfold upd; split; exact hv; exact hx i hi)
  have h3 := hx k hk
  unfold sumN at h ⊢
  rw [foldI_iff h1.1] at h
  intro hc
  rw [foldI_iff h2.1, rawN_upd, if_pos hk] at hc
  split at hc <;> omega
end Go.Proofs.Ytgjppmkadmfibaa
