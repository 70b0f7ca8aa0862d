/- Plain facts on the sums of heads. -/
import Derived.Test.YtbijbcpalmepiaaIpSame
import Derived.Test.YtbijbcpalmepiaaLift2
set_option linter.unusedVariables false
set_option maxRecDepth 100000
set_option linter.unusedSimpArgs false
namespace Go.Proofs.Ytbijbcpalmepiaa
open Go.RowKit
theorem calls_gen {P : Program} {f : FuncId} {args : Array Value} {w : World} {os : Array Obj} {d : Nat} {R : Ending → World → Prop} (h : ∀ os d, Calls P f args (w.junk os d) R) : Calls P f args (w.junk os d) R := h os d
theorem foldI_full {n : Int} (h : 0 ≤ n) : foldI (n + (65535 - foldI n)) = 65535 := by
  by_cases h0 : n = 0
  · subst h0; decide
  · unfold foldI
    rw [if_neg h0, if_neg (by omega)]
    omega
theorem foldI_iff {n : Int} (h : 0 ≤ n) : foldI n = 65535 ↔ 0 < n ∧ n % 65535 = 0 := by
  unfold foldI
  split <;> omega
/-- One byte changed. -/
theorem rawN_upd (xs : Nat → Int) (k : Nat) (v : Int) : ∀ n, rawN (upd xs k v) n = rawN xs n + if k < n then (if k % 2 = 0 then (v - xs k) * 256 else v - xs k) else 0
  | 0 => by simp [rawN]
  | n + 1 => by
    have h := rawN_upd xs k v n
    simp only [rawN]
    rw [h]
    by_cases hk : n = k
    · subst hk
      rw [upd_same]
      simp only [Nat.lt_irrefl, if_false, Nat.lt_succ_self, if_true]
      split <;> omega
    · rw [upd_other _ _ _ _ hk]
      by_cases hlt : k < n
      · rw [if_pos hlt, if_pos (show k < n + 1 by omega)]; exact Int.add_right_comm _ _ _
      · rw [if_neg hlt, if_neg (show ¬ k < n + 1 by omega)]; exact Int.add_right_comm _ _ _
theorem rawN_congr {xs ys : Nat → Int} : ∀ n, (∀ i, i < n → xs i = ys i) → rawN xs n = rawN ys n
  | 0, _ => rfl
  | n + 1, h => by
    simp only [rawN]
    rw [rawN_congr n (fun i hi => h i (by omega)), h n (by omega)]
theorem sumN_congr {xs ys : Nat → Int} {n : Nat} (h : ∀ i, i < n → xs i = ys i) : sumN xs n = sumN ys n := by unfold sumN; rw [rawN_congr n h]
theorem sumN_spoilt {xs : Nat → Int} {n k : Nat} {v : Int} (hx : ∀ i, i < n → 0 ≤ xs i ∧ xs i ≤ 255) (hv : 0 ≤ v ∧ v ≤ 255) (hk : k < n) (hne : v ≠ xs k) (h : sumN xs n = 65535) : sumN (upd xs k v) n ≠ 65535 := by
  have h1 := rawN_bd xs n hx
  have h2 := rawN_bd (upd xs k v) n (fun i hi => by unfold upd; split; exact hv; exact hx i hi)
  have h3 := hx k hk
  unfold sumN at h ⊢
  rw [foldI_iff h1.1] at h
  intro hc
  rw [foldI_iff h2.1, rawN_upd, if_pos hk] at hc
  split at hc <;> omega
theorem headB_sum (p : Ip) (c : Int) : ∀ n, 12 ≤ n → rawN (headB p c) n = rawN (headB p 0) n + c := by
  intro n hn
  obtain ⟨k, rfl⟩ : ∃ k, n = 12 + k := ⟨n - 12, by omega⟩
  induction k with
  | zero => simp [rawN, headB]; omega
  | succ k ih =>
    have := ih (by omega)
    show rawN (headB p c) ((12 + k) + 1) = rawN (headB p 0) ((12 + k) + 1) + c
    simp only [rawN]
    rw [this]
    have e : headB p c (12 + k) = headB p 0 (12 + k) := by
      rcases twenty (12 + k) with h | h | h | h | h | h | h | h | h | h | h | h | h | h | h | h | h | h | h | h | ⟨j, h⟩
      all_goals first | omega | (rw [h]; rfl)
    rw [e]; split <;> omega
theorem pkt_sum {p : Ip} (h : MayP p) (hs : 0 ≤ p.src ∧ p.src ≤ 4294967295) (hd : 0 ≤ p.dst ∧ p.dst ≤ 4294967295) (ho : ∀ i, i < p.ol → 0 ≤ p.opts i ∧ p.opts i ≤ 255) : sumN (pktB p) (20 + p.ol) = 65535 := by
  have e : sumN (pktB p) (20 + p.ol) = sumN (headB p (hdrSum p)) (20 + p.ol) := sumN_congr fun i hi => by unfold pktB; rw [if_pos hi]
  rw [e]
  unfold sumN
  rw [headB_sum p _ _ (by omega)]
  unfold hdrSum sumN
  exact foldI_full (rawN_bd _ _ (headB_byte h (by omega) hs hd ho)).1
theorem pkt_opts (p : Ip) : sameN (fun k => pktB p (20 + k)) p.opts p.ol p.ol = true := by
  simp only [sameN, decide_eq_true_eq, true_and]
  intro i hi
  unfold pktB
  rw [if_pos (by omega), Nat.add_comm]
  rfl
theorem pkt_body (p : Ip) : sameN (fun k => pktB p ((20 + p.ol) + k)) p.body p.bl p.bl = true := by
  simp only [sameN, decide_eq_true_eq, true_and]
  intro i hi
  unfold pktB
  rw [if_neg (by omega), Nat.add_sub_cancel_left]
theorem pkt_head (p : Ip) (i : Nat) (h : i < 20 + p.ol) : pktB p i = headB p (hdrSum p) i := by unfold pktB; rw [if_pos h]
end Go.Proofs.Ytbijbcpalmepiaa
