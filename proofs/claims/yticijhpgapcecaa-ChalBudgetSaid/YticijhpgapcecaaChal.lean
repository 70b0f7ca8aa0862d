/- The contracts of package chal, of its reference and of seq: what each call returns; the world grows by new blocks alone. -/
import Derived.Test.YticijhpgapcecaaLift
set_option linter.unusedSimpArgs false
set_option linter.unusedVariables false
namespace Go.Proofs.Yticijhpgapcecaa
open Go.RowKit

def withinB (n a b : Int) : Bool := decide (a ≤ n) && decide (n ≤ b)
set_option maxHeartbeats 400000 in
theorem within_any (n a b : Int) (w : World) :
    Calls Try.prog 45 #[.int .i64 n, .int .i64 a, .int .i64 b] w fun e w' => e = .returned (.bool (withinB n a b)) ∧ w = w' := by
  go_enter Try.func45, Try.ntmps45
  go_wp2
  all_goals go_ret
  all_goals refine ⟨ret_bool ?_, rfl⟩
  all_goals (simp [withinB]; try omega)

def distI (a b : Int) : Int := wrap32 (b - a)
theorem wrap32_mod (x : Int) : wrap64 (wrap32 (x % 4294967296)) = wrap32 x := by unfold wrap64 wrap32; omega
set_option maxHeartbeats 400000 in
theorem dist_any (a b : Int) (w : World) :
    Calls Try.prog 46 #[.int .u32 a, .int .u32 b] w fun e w' => e = .returned (.int .i64 (distI a b)) ∧ w = w' := by
  go_enter Try.func46, Try.ntmps46
  go_wp2
  go_ret
  exact ⟨ret_int (wrap32_mod _), rfl⟩

def stepI (a n : Int) : Int := (a + n) % 4294967296
set_option maxHeartbeats 400000 in
theorem step_any (a n : Int) (w : World) :
    Calls Try.prog 17 #[.int .u32 a, .int .i64 n] w fun e w' => e = .returned (.int .u32 (stepI a n)) ∧ w = w' := by
  go_enter Try.func17, Try.ntmps17
  go_wp2
  go_ret
  exact ⟨ret_int (by unfold stepI; omega), rfl⟩

def inB (x a b : Int) : Bool := decide ((x - a) % 4294967296 ≤ (b - a) % 4294967296)
set_option maxHeartbeats 400000 in
theorem in_any (x a b : Int) (w : World) :
    Calls Try.prog 48 #[.int .u32 x, .int .u32 a, .int .u32 b] w fun e w' => e = .returned (.bool (inB x a b)) ∧ w = w' := by
  go_enter Try.func48, Try.ntmps48
  go_wp2
  go_ret
  exact ⟨ret_bool (by simp [inB]), rfl⟩

def judgeI (flags sq next win : Int) : Int :=
  if withinB win 0 1073741824 = false then 3
  else if bits .and .i64 flags 4 == 0 && bits .and .i64 flags 2 != 0 then 2
  else if bits .and .i64 flags 4 == 0 then 1
  else if sq == next then 1
  else if withinB (distI next sq) 1 (wrap64 (win - 1)) then 2 else 3
set_option maxHeartbeats 400000 in
theorem judge_any (c0 c1 c3 c5 c6 c7 c8 : Value) (sq flags next win : Int) (w : World) :
    Calls Try.prog 18 #[.agg #[c0, c1, .int .u32 sq, c3, .int .i64 flags, c5, c6, c7, c8], .int .u32 next, .int .i64 win] w fun e w' => e = .returned (.int .i64 (judgeI flags sq next win)) ∧ Junk w w' := by
  go_enter Try.func18, Try.ntmps18
  go_wp2_with (first | (go_at_call 45; refine (within_any _ _ _ _).mono ?_; rintro e w' ⟨rfl, rfl⟩) | (go_at_call 46; refine (dist_any _ _ _).mono ?_; rintro e w' ⟨rfl, rfl⟩))
  all_goals go_ret
  all_goals refine ⟨ret_int ?_, by (repeat (first | exact Junk.refl _ | apply Junk.alloc | apply Junk.junk | apply Junk.drew | apply Junk.drewN))⟩
  all_goals (simp_all [judgeI])

def rightB (p l a : Int) : Bool := withinB p 0 1000 && withinB l 0 p && withinB a 0 1099511627776
set_option maxHeartbeats 400000 in
theorem right_any (p l a : Int) (w : World) :
    Calls Try.prog 16 #[.agg #[.int .i64 p, .int .i64 l, .int .i64 a]] w fun e w' => e = .returned (.bool (rightB p l a)) ∧ Junk w w' := by
  go_enter Try.func16, Try.ntmps16
  go_wp2_with (first | (go_at_call 45; refine (within_any _ _ _ _).mono ?_; rintro e w' ⟨rfl, rfl⟩))
  all_goals go_ret
  all_goals refine ⟨ret_bool ?_, by (repeat (first | exact Junk.refl _ | apply Junk.alloc | apply Junk.junk | apply Junk.drew | apply Junk.drewN))⟩
  all_goals (simp_all [rightB])
theorem rightB_bd {p l a : Int} (h : rightB p l a = true) : 0 ≤ p ∧ p ≤ 1000 ∧ 0 ≤ l ∧ l ≤ p ∧ 0 ≤ a ∧ a ≤ 1099511627776 := by
  simp [rightB, withinB] at h; omega

/-- (Per, Left, At), ok -/
def spendR (p l a now : Int) : (Int × Int × Int) × Bool :=
  if rightB p l a = false ∨ withinB now a 1099511627776 = false then ((p, l, a), false)
  else if now = a then (if l = 0 then ((p, l, a), false) else ((p, l - 1, a), true))
  else (if p = 0 then ((p, p, now), false) else ((p, p - 1, now), true))
set_option maxHeartbeats 1000000 in
theorem spend_any (p l a now : Int) (w : World) :
    Calls Try.prog 15 #[.agg #[.int .i64 p, .int .i64 l, .int .i64 a], .int .i64 now] w fun e w' => e = .returned (.tuple #[.agg #[.int .i64 (spendR p l a now).1.1, .int .i64 (spendR p l a now).1.2.1, .int .i64 (spendR p l a now).1.2.2], .bool (spendR p l a now).2]) ∧ Junk w w' := by
  by_cases hr : rightB p l a = true
  · have hbd := rightB_bd hr
    go_enter Try.func15, Try.ntmps15
    go_wp2_with (first | (go_at_call 16; refine (right_any _ _ _ _).mono ?_; rintro e w' ⟨rfl, ⟨osj, dj, rfl⟩⟩) | (go_at_call 45; refine (within_any _ _ _ _).mono ?_; rintro e w' ⟨rfl, rfl⟩))
    all_goals go_returns
    all_goals refine ⟨ret_val ?_, by (repeat (first | exact Junk.refl _ | apply Junk.alloc | apply Junk.junk | apply Junk.drew | apply Junk.drewN))⟩
    all_goals (simp_all [spendR])
  · have hr' : rightB p l a = false := by simpa using hr
    clear hr
    go_enter Try.func15, Try.ntmps15
    go_wp2_with (first | (go_at_call 16; refine (right_any _ _ _ _).mono ?_; rintro e w' ⟨rfl, ⟨osj, dj, rfl⟩⟩) | (go_at_call 45; refine (within_any _ _ _ _).mono ?_; rintro e w' ⟨rfl, rfl⟩))
    all_goals go_returns
    all_goals refine ⟨ret_val ?_, by (repeat (first | exact Junk.refl _ | apply Junk.alloc | apply Junk.junk | apply Junk.drew | apply Junk.drewN))⟩
    all_goals (simp_all [spendR])

def mayB (ack una endd win : Int) : Bool := withinB win 0 1073741824 && inB ack (stepI una (wrap64 (-win))) endd
set_option maxHeartbeats 400000 in
theorem may_any (ack una endd win : Int) (w : World) :
    Calls Try.prog 22 #[.int .u32 ack, .int .u32 una, .int .u32 endd, .int .i64 win] w fun e w' => e = .returned (.bool (mayB ack una endd win)) ∧ w = w' := by
  go_enter Try.func22, Try.ntmps22
  go_wp2_with (first | (go_at_call 45; refine (within_any _ _ _ _).mono ?_; rintro e w' ⟨rfl, rfl⟩) | (go_at_call 17; refine (step_any _ _ _).mono ?_; rintro e w' ⟨rfl, rfl⟩) | (go_at_call 48; refine (in_any _ _ _ _).mono ?_; rintro e w' ⟨rfl, rfl⟩))
  all_goals go_ret
  all_goals refine ⟨ret_bool ?_, rfl⟩
  all_goals (simp_all [mayB])
end Go.Proofs.Yticijhpgapcecaa
