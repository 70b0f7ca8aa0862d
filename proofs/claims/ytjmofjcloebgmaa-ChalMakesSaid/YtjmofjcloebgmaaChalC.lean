/- The contracts of package chal, of its reference and of seq: what each call returns; the world grows by new blocks alone. -/
import Derived.Test.YtjmofjcloebgmaaLift
set_option linter.unusedSimpArgs false
set_option linter.unusedVariables false
set_option maxRecDepth 100000
namespace Go.Proofs.Ytjmofjcloebgmaa
open Go.RowKit

def withinB (n a b : Int) : Bool := decide (a ≤ n) && decide (n ≤ b)
set_option maxHeartbeats 400000 in
theorem within_any (n a b : Int) (w : World) :
    Calls Try.prog 64 #[.int .i64 n, .int .i64 a, .int .i64 b] w fun e w' => e = .returned (.bool (withinB n a b)) ∧ w = w' := by
  go_enter Try.func64, Try.ntmps64
  go_wp2
  all_goals go_ret
  all_goals refine ⟨ret_bool ?_, rfl⟩
  all_goals (simp [withinB]; try omega)

def distI (a b : Int) : Int := wrap32 (b - a)
theorem wrap32_mod (x : Int) : wrap64 (wrap32 (x % 4294967296)) = wrap32 x := by unfold wrap64 wrap32; omega
set_option maxHeartbeats 400000 in
theorem dist_any (a b : Int) (w : World) :
    Calls Try.prog 85 #[.int .u32 a, .int .u32 b] w fun e w' => e = .returned (.int .i64 (distI a b)) ∧ w = w' := by
  go_enter Try.func85, Try.ntmps85
  go_wp2
  go_ret
  exact ⟨ret_int (wrap32_mod _), rfl⟩

set_option maxHeartbeats 400000 in
set_option maxHeartbeats 400000 in
def judgeI (flags sq next win : Int) : Int :=
  if withinB win 0 1073741824 = false then 3
  else if bits .and .i64 flags 4 == 0 && bits .and .i64 flags 2 != 0 then 2
  else if bits .and .i64 flags 4 == 0 then 1
  else if sq == next then 1
  else if withinB (distI next sq) 1 (wrap64 (win - 1)) then 2 else 3
set_option maxHeartbeats 400000 in
theorem judge_any (c0 c1 c3 c5 c6 c7 c8 : Value) (sq flags next win : Int) (w : World) :
    Calls Try.prog 63 #[.agg #[c0, c1, .int .u32 sq, c3, .int .i64 flags, c5, c6, c7, c8], .int .u32 next, .int .i64 win] w fun e w' => e = .returned (.int .i64 (judgeI flags sq next win)) ∧ Junk w w' := by
  go_enter Try.func63, Try.ntmps63
  go_wp2_with (first | (go_at_call 64; refine (within_any _ _ _ _).mono ?_; rintro e w' ⟨rfl, rfl⟩) | (go_at_call 85; refine (dist_any _ _ _).mono ?_; rintro e w' ⟨rfl, rfl⟩))
  all_goals go_ret
  all_goals refine ⟨ret_int ?_, by (repeat (first | with_reducible exact Junk.refl _ | with_reducible exact Junk.app _ _ _ _ _ | with_reducible apply Junk.alloc | with_reducible apply Junk.junk | with_reducible apply Junk.drew | with_reducible apply Junk.drewN))⟩
  all_goals (simp_all [judgeI])

def rightB (p l a : Int) : Bool := withinB p 0 1000 && withinB l 0 p && withinB a 0 1099511627776
set_option maxHeartbeats 400000 in
theorem ch_right_any (p l a : Int) (w : World) :
    Calls Try.prog 84 #[.agg #[.int .i64 p, .int .i64 l, .int .i64 a]] w fun e w' => e = .returned (.bool (rightB p l a)) ∧ Junk w w' := by
  go_enter Try.func84, Try.ntmps84
  go_wp2_with (first | (go_at_call 64; refine (within_any _ _ _ _).mono ?_; rintro e w' ⟨rfl, rfl⟩))
  all_goals go_ret
  all_goals refine ⟨ret_bool ?_, by (repeat (first | with_reducible exact Junk.refl _ | with_reducible exact Junk.app _ _ _ _ _ | with_reducible apply Junk.alloc | with_reducible apply Junk.junk | with_reducible apply Junk.drew | with_reducible apply Junk.drewN))⟩
  all_goals (simp_all [rightB])
theorem rightB_bd {p l a : Int} (h : rightB p l a = true) : 0 ≤ p ∧ p ≤ 1000 ∧ 0 ≤ l ∧ l ≤ p ∧ 0 ≤ a ∧ a ≤ 1099511627776 := by
  simp [rightB, withinB] at h; omega

/-- (Per, Left, At), ok -/
def spendR (p l a now : Int) : (Int × Int × Int) × Bool :=
  if rightB p l a = false ∨ withinB now a 1099511627776 = false then ((p, l, a), false)
  else if now = a then (if l = 0 then ((p, l, a), false) else ((p, l - 1, a), true))
  else (if p = 0 then ((p, p, now), false) else ((p, p - 1, now), true))
set_option maxHeartbeats 1000000 in
theorem spend_any (p l a now : Int) (w : World) :
    Calls Try.prog 62 #[.agg #[.int .i64 p, .int .i64 l, .int .i64 a], .int .i64 now] w fun e w' => e = .returned (.tuple #[.agg #[.int .i64 (spendR p l a now).1.1, .int .i64 (spendR p l a now).1.2.1, .int .i64 (spendR p l a now).1.2.2], .bool (spendR p l a now).2]) ∧ Junk w w' := by
  by_cases hr : rightB p l a = true
  · have hbd := rightB_bd hr
    go_enter Try.func62, Try.ntmps62
    go_wp2_with (first | (go_at_call 84; refine (ch_right_any _ _ _ _).mono ?_; rintro e w' ⟨rfl, ⟨osj, dj, rfl⟩⟩) | (go_at_call 64; refine (within_any _ _ _ _).mono ?_; rintro e w' ⟨rfl, rfl⟩))
    all_goals go_returns
    all_goals refine ⟨ret_val ?_, by (repeat (first | with_reducible exact Junk.refl _ | with_reducible exact Junk.app _ _ _ _ _ | with_reducible apply Junk.alloc | with_reducible apply Junk.junk | with_reducible apply Junk.drew | with_reducible apply Junk.drewN))⟩
    all_goals (simp_all [spendR])
  · have hr' : rightB p l a = false := by simpa using hr
    clear hr
    go_enter Try.func62, Try.ntmps62
    go_wp2_with (first | (go_at_call 84; refine (ch_right_any _ _ _ _).mono ?_; rintro e w' ⟨rfl, ⟨osj, dj, rfl⟩⟩) | (go_at_call 64; refine (within_any _ _ _ _).mono ?_; rintro e w' ⟨rfl, rfl⟩))
    all_goals go_returns
    all_goals refine ⟨ret_val ?_, by (repeat (first | with_reducible exact Junk.refl _ | with_reducible exact Junk.app _ _ _ _ _ | with_reducible apply Junk.alloc | with_reducible apply Junk.junk | with_reducible apply Junk.drew | with_reducible apply Junk.drewN))⟩
    all_goals (simp_all [spendR])
end Go.Proofs.Ytjmofjcloebgmaa
