/- The contracts of the references of chal: they return what the program's functions return. -/
import Derived.Test.YticijhpgapcecaaChal
set_option linter.unusedSimpArgs false
set_option linter.unusedVariables false
namespace Go.Proofs.Yticijhpgapcecaa
open Go.RowKit

theorem distI_of (a b : Int) : distI a b = (b - a + 2147483648) % 4294967296 - 2147483648 := by unfold distI wrap32; rfl
set_option maxHeartbeats 400000 in
theorem rdist_any (a b : Int) (w : World) (ha : 0 ≤ a ∧ a ≤ 4294967295) (hb : 0 ≤ b ∧ b ≤ 4294967295) :
    Calls Try.prog 47 #[.int .u32 a, .int .u32 b] w fun e w' => e = .returned (.int .i64 (distI a b)) ∧ w = w' := by
  go_enter Try.func47, Try.ntmps47
  go_wp2
  all_goals go_ret
  all_goals refine ⟨ret_int ?_, rfl⟩
  all_goals (rw [distI_of]; try omega)
theorem tmod32 (n : Int) : n.tmod 4294967296 = if 0 ≤ n then n % 4294967296 else -(-n % 4294967296) := by
  split
  · rename_i h; exact Int.tmod_eq_emod_of_nonneg h
  · rename_i h
    have h2 := Int.tmod_eq_emod_of_nonneg (a := -n) (b := 4294967296) (by omega)
    have h3 := Int.neg_tmod (-n) 4294967296
    rw [Int.neg_neg] at h3
    rw [h3, h2]
set_option maxHeartbeats 400000 in
theorem wrap_any (n : Int) (w : World) (hn : -9223372036854775808 ≤ n ∧ n ≤ 9223372036854775807) :
    Calls Try.prog 49 #[.int .i64 n] w fun e w' => e = .returned (.int .u32 (n % 4294967296)) ∧ w = w' := by
  have h1 := tmod32 n
  go_enter Try.func49, Try.ntmps49
  go_wp2
  all_goals go_ret
  all_goals refine ⟨ret_int ?_, rfl⟩
  all_goals (go_tidy; (try unfold wrap64); omega)
set_option maxHeartbeats 400000 in
theorem rin_any (x a b : Int) (w : World) (hx : 0 ≤ x ∧ x ≤ 4294967295) (ha : 0 ≤ a ∧ a ≤ 4294967295) (hb : 0 ≤ b ∧ b ≤ 4294967295) :
    Calls Try.prog 50 #[.int .u32 x, .int .u32 a, .int .u32 b] w fun e w' => e = .returned (.bool (inB x a b)) ∧ w = w' := by
  go_enter Try.func50, Try.ntmps50
  go_wp2
  all_goals go_ret
  all_goals refine ⟨ret_bool ?_, rfl⟩
  all_goals (rw [Bool.eq_iff_iff]; simp [inB]; try omega)
set_option maxHeartbeats 400000 in
theorem rjudge_any (c0 c1 c3 c5 c6 c7 c8 : Value) (sq flags next win : Int) (w : World) (hs : 0 ≤ sq ∧ sq ≤ 4294967295) (hn : 0 ≤ next ∧ next ≤ 4294967295) :
    Calls Try.prog 21 #[.agg #[c0, c1, .int .u32 sq, c3, .int .i64 flags, c5, c6, c7, c8], .int .u32 next, .int .i64 win] w fun e w' => e = .returned (.int .i64 (judgeI flags sq next win)) ∧ Junk w w' := by
  go_enter Try.func21, Try.ntmps21
  go_wp2_with (first | (go_at_call 47; refine (rdist_any _ _ _ (by omega) (by omega)).mono ?_; rintro e w' ⟨rfl, rfl⟩))
  all_goals go_ret
  all_goals refine ⟨ret_int ?_, by (repeat (first | exact Junk.refl _ | apply Junk.alloc | apply Junk.junk | apply Junk.drew | apply Junk.drewN))⟩
  all_goals (go_tidy; simp only [judgeI, withinB, distI_of, wrap64, Bool.and_eq_true, decide_eq_true_eq, beq_iff_eq, bne_iff_ne, ne_eq, beq_eq_false_iff_ne, bne_eq_false_iff_eq, Bool.and_eq_false_iff, decide_eq_false_iff_not] at *; (repeat' split) <;> omega)
set_option maxHeartbeats 400000 in
theorem rright_any (p l a : Int) (w : World) :
    Calls Try.prog 24 #[.agg #[.int .i64 p, .int .i64 l, .int .i64 a]] w fun e w' => e = .returned (.bool (rightB p l a)) ∧ Junk w w' := by
  go_enter Try.func24, Try.ntmps24
  go_wp2
  all_goals go_ret
  all_goals refine ⟨ret_bool ?_, by (repeat (first | exact Junk.refl _ | apply Junk.alloc | apply Junk.junk | apply Junk.drew | apply Junk.drewN))⟩
  all_goals (rw [Bool.eq_iff_iff]; simp [rightB, withinB]; try omega)
set_option maxHeartbeats 1000000 in
theorem rspend_any (p l a now : Int) (w : World) :
    Calls Try.prog 20 #[.agg #[.int .i64 p, .int .i64 l, .int .i64 a], .int .i64 now] w fun e w' => e = .returned (.tuple #[.agg #[.int .i64 (spendR p l a now).1.1, .int .i64 (spendR p l a now).1.2.1, .int .i64 (spendR p l a now).1.2.2], .bool (spendR p l a now).2]) ∧ Junk w w' := by
  by_cases hr : rightB p l a = true
  · have hbd := rightB_bd hr
    go_enter Try.func20, Try.ntmps20
    go_wp2_with (first | (go_at_call 24; refine (rright_any _ _ _ _).mono ?_; rintro e w' ⟨rfl, ⟨osj, dj, rfl⟩⟩))
    all_goals go_returns
    all_goals refine ⟨ret_val ?_, by (repeat (first | exact Junk.refl _ | apply Junk.alloc | apply Junk.junk | apply Junk.drew | apply Junk.drewN))⟩
    all_goals (go_tidy; simp only [spendR, hr, withinB, Bool.and_eq_true, decide_eq_true_eq, beq_iff_eq, bne_iff_ne, ne_eq, beq_eq_false_iff_ne, bne_eq_false_iff_eq, Bool.and_eq_false_iff, decide_eq_false_iff_not, reduceCtorEq, false_or] at *)
    all_goals ((repeat' split) <;> first | (exfalso; omega) | (simp; done) | (simp; omega))
  · have hr' : rightB p l a = false := by simpa using hr
    clear hr
    go_enter Try.func20, Try.ntmps20
    go_wp2_with (first | (go_at_call 24; refine (rright_any _ _ _ _).mono ?_; rintro e w' ⟨rfl, ⟨osj, dj, rfl⟩⟩))
    all_goals go_returns
    all_goals refine ⟨ret_val ?_, by (repeat (first | exact Junk.refl _ | apply Junk.alloc | apply Junk.junk | apply Junk.drew | apply Junk.drewN))⟩
    all_goals (simp_all [spendR])
set_option maxHeartbeats 400000 in
theorem rmay_any (ack una endd win : Int) (w : World) (hx : 0 ≤ ack ∧ ack ≤ 4294967295) (ha : 0 ≤ una ∧ una ≤ 4294967295) (hb : 0 ≤ endd ∧ endd ≤ 4294967295) :
    Calls Try.prog 23 #[.int .u32 ack, .int .u32 una, .int .u32 endd, .int .i64 win] w fun e w' => e = .returned (.bool (mayB ack una endd win)) ∧ w = w' := by
  go_enter Try.func23, Try.ntmps23
  go_wp2_with (first | (go_at_call 49; refine (wrap_any _ _ (by omega)).mono ?_; rintro e w' ⟨rfl, rfl⟩) | (go_at_call 50; refine (rin_any _ _ _ _ (by omega) (by omega) (by omega)).mono ?_; rintro e w' ⟨rfl, rfl⟩))
  all_goals go_ret
  all_goals refine ⟨ret_bool ?_, rfl⟩
  all_goals (go_tidy; try rw [Bool.eq_iff_iff]; simp [mayB, inB, withinB, stepI, wrap64]; try omega)
end Go.Proofs.Yticijhpgapcecaa
