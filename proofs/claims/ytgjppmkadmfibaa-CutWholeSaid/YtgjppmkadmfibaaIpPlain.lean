/- Plain facts on the sums of heads. -/
import Derived.Test.YtgjppmkadmfibaaIpSame
import Derived.Test.YtgjppmkadmfibaaRsB
import Derived.Test.YtgjppmkadmfibaaSumPlain
set_option linter.unusedVariables false
set_option maxRecDepth 100000
set_option linter.unusedSimpArgs false
namespace Go.Proofs.Ytgjppmkadmfibaa
open Go.RowKit
theorem headB_sum (p : Ip) (c : Int) : ∀ n, 12 ≤ n → rawN (headB p c) n = rawN (headB p 0) n + c := by
  intro n hn
  obtain ⟨k, rfl⟩ : ∃ k, n = 12 + k := ⟨n - 12, by omega⟩
  induction k with
  | zero => simp [rawN, headB]; omega
  | succ k ih =>
    have := ih (by omega)
    show rawN (headB p c) ((12 + k) + 1) = rawN (headB p 0) ((12 + k) + 1) + c
    simp only [rawN]
    rw [this]
    have e : headB p c (12 + k) = headB p 0 (12 + k) := by
      rcases twenty (12 + k) with h | h | h | h | h | h | h | h | h | h | h | h | h | h | h | h | h | h | h | h | ⟨j, h⟩
      all_goals first | omega | (rw [h]; rfl)
    rw [e]; split <;> omega
theorem pkt_sum {p : Ip} (h : MayP p) (hs : 0 ≤ p.src ∧ p.src ≤ 4294967295) (hd : 0 ≤ p.dst ∧ p.dst ≤ 4294967295) (ho : ∀ i, i < p.ol → 0 ≤ p.opts i ∧ p.opts i ≤ 255) : sumN (pktB p) (20 + p.ol) = 65535 := by
  have e : sumN (pktB p) (20 + p.ol) = sumN (headB p (hdrSum p)) (20 + p.ol) := sumN_congr fun i hi => by unfold pktB; rw [if_pos hi]
  rw [e]
  unfold sumN
  rw [headB_sum p _ _ (by omega)]
  unfold hdrSum sumN
  exact foldI_full (rawN_bd _ _ (headB_byte h (by omega) hs hd ho)).1
theorem pkt_opts (p : Ip) : sameN (fun k => pktB p (20 + k)) p.opts p.ol p.ol = true := by
  simp only [sameN, decide_eq_true_eq, true_and]
  intro i hi
  unfold pktB
  rw [if_pos (by omega), Nat.add_comm]
  rfl
theorem pkt_body (p : Ip) : sameN (fun k => pktB p ((20 + p.ol) + k)) p.body p.bl p.bl = true := by
  simp only [sameN, decide_eq_true_eq, true_and]
  intro i hi
  unfold pktB
  rw [if_neg (by omega), Nat.add_sub_cancel_left]
theorem pkt_head (p : Ip) (i : Nat) (h : i < 20 + p.ol) : pktB p i = headB p (hdrSum p) i := by unfold pktB; rw [if_pos h]
end Go.Proofs.Ytgjppmkadmfibaa
