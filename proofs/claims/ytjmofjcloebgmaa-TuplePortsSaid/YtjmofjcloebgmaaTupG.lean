/- What is put of an echo is read as it was: plain laws. -/
import Derived.Test.YtjmofjcloebgmaaTupF
set_option linter.unusedVariables false
set_option maxRecDepth 100000
set_option linter.unusedSimpArgs false
namespace Go.Proofs.Ytjmofjcloebgmaa
open Go.RowKit
theorem putB_raw (t c r : Int) (xs : Nat → Int) (l : Nat) : ∀ k, rawN (putB t c r xs l) (4 + k) = rawN (preB t c r xs) (4 + k) + putSum t c r xs l
  | 0 => by
    show rawN (putB t c r xs l) 4 = rawN (preB t c r xs) 4 + _
    simp [rawN, putB, preB]
    omega
  | k + 1 => by
    have h := putB_raw t c r xs l k
    show rawN (putB t c r xs l) ((4 + k) + 1) = rawN (preB t c r xs) ((4 + k) + 1) + _
    simp only [rawN]
    rw [h]
    have e : putB t c r xs l (4 + k) = preB t c r xs (4 + k) := by unfold putB; rw [if_neg (by omega), if_neg (by omega)]
    rw [e]
    omega
theorem fold_fits6 {n : Int} (h : 0 ≤ n) : foldI (n + (65535 - foldI n)) = 65535 := by
  by_cases h0 : n = 0
  · subst h0; decide
  · unfold foldI
    rw [if_neg h0, if_neg (by omega)]
    omega
theorem putB_fits {t c r : Int} {xs : Nat → Int} {l : Nat} (hp : ∀ i, i < 8 + l → 0 ≤ preB t c r xs i ∧ preB t c r xs i ≤ 255) : sumN (putB t c r xs l) (8 + l) = 65535 := by
  have h := putB_raw t c r xs l (4 + l)
  rw [show 4 + (4 + l) = 8 + l from by omega] at h
  unfold sumN
  rw [h]
  exact fold_fits6 (rawN_bd _ _ hp).1
theorem putB_rest {t c r : Int} {xs : Nat → Int} {l : Nat} (hr : 0 ≤ r ∧ r ≤ 4294967295) : pRest (putB t c r xs l) = r := by
  have p4 : putB t c r xs l 4 = r / 16777216 := rfl
  have p5 : putB t c r xs l 5 = r / 65536 % 256 := rfl
  have p6 : putB t c r xs l 6 = r / 256 % 256 := rfl
  have p7 : putB t c r xs l 7 = r % 256 := rfl
  unfold pRest; rw [p4, p5, p6, p7]; omega
/-- An echo, or its answer: eight bytes. -/
def echoB (t c r : Int) : Nat → Int := putB t c r (fun _ => 0) 0
theorem echo_put {t c : Int} (ht : 0 ≤ t ∧ t ≤ 255) (hc : 0 ≤ c ∧ c ≤ 255) : putErr t c 0 = 0 := by
  unfold putErr byteful
  rw [if_pos (by simp; omega)]
theorem echo_err {t c r : Int} (ht : t = 0 ∨ t = 8) (hc : 0 ≤ c ∧ c ≤ 255) (hr : 0 ≤ r ∧ r ≤ 4294967295) (src dst : Int) : ofErr false 0 1 src dst (echoB t c r) 8 = 0 := by
  have hf := putB_fits (l := 0) (preB_byte (t := t) (c := c) (r := r) (xs := fun _ => 0) (l := 0) (by omega) hc hr (fun i hi => by omega))
  unfold ofErr
  rw [if_neg (by decide)]
  unfold prErr
  rw [if_neg (by decide), if_neg (by decide), if_pos rfl]
  have hp : pErr (echoB t c r) 8 = 0 := by unfold pErr; rw [if_neg (by omega), if_neg (by omega), if_pos (show sumN (echoB t c r) 8 = 65535 from hf)]
  rw [hp, if_neg (by decide)]
  have h0 : echoB t c r 0 = t := rfl
  rw [h0, if_pos (by rcases ht with rfl | rfl <;> rfl)]
theorem echo_tup {t c r : Int} (ht : t = 0 ∨ t = 8) (hc : 0 ≤ c ∧ c ≤ 255) (hr : 0 ≤ r ∧ r ≤ 4294967295) (src dst : Int) : ofTup false 0 1 src dst (echoB t c r) 8 = ⟨1, src, r / 65536, dst, r / 65536⟩ := by
  unfold ofTup
  rw [if_pos (echo_err ht hc hr src dst)]
  unfold prS prD
  rw [if_pos rfl, if_pos rfl]
  unfold echoB
  rw [putB_rest hr]
theorem tupRight_turn (t : Tup) : tupRight (tupTurn t) = tupRight t := by
  unfold tupRight tupTurn
  simp only
  cases decide (0 ≤ t.proto) <;> cases decide (t.proto ≤ 255) <;> cases portB t.sport <;> cases portB t.dport <;> rfl
end Go.Proofs.Ytjmofjcloebgmaa
