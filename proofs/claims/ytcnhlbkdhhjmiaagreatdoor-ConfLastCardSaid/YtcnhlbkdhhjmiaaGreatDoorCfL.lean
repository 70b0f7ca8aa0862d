/- Right routes, rules and forwards: the small parts. -/
import Derived.Test.YtcnhlbkdhhjmiaaGreatDoorCfK
set_option linter.unusedVariables false
set_option maxRecDepth 100000
set_option linter.unusedSimpArgs false
namespace Go.Proofs.YtcnhlbkdhhjmiaaGreatDoor
open Go.RowKit
variable {L L' : Nat → Prop} {w w' w'' : World}
set_option maxHeartbeats 1000000 in
theorem within_any (n a b : Int) (w : World) : Calls Tryz.prog 26 #[.int .i64 n, .int .i64 a, .int .i64 b] w fun e w' => e = .returned (.bool (decide (a ≤ n ∧ n ≤ b))) ∧ w' = w := by
  go_enter Tryz.func26, Tryz.ntmps26
  go_wp2
  all_goals go_ret
  all_goals refine ⟨?_, rfl⟩
  all_goals (congr 2; simp; try omega)
set_option maxHeartbeats 1000000 in
theorem within14_any (n a b : Int) (w : World) : Calls Tryz.prog 64 #[.int .i64 n, .int .i64 a, .int .i64 b] w fun e w' => e = .returned (.bool (decide (a ≤ n ∧ n ≤ b))) ∧ w' = w := by
  go_enter Tryz.func64, Tryz.ntmps64
  go_wp2
  all_goals go_ret
  all_goals refine ⟨?_, rfl⟩
  all_goals (congr 2; simp; try omega)
set_option maxHeartbeats 1000000 in
theorem mask_any (b : Int) (h : 0 ≤ b ∧ b ≤ 32) (w : World) : Calls Tryz.prog 61 #[.int .i64 b] w fun e w' => e = .returned (.int .u32 (maskI b)) ∧ Junk w w' := by
  have h1 : ¬ 32 < b := by omega
  go_enter Tryz.func61, Tryz.ntmps61
  go_wp2
  go_ret
  exact ⟨rfl, Junk.refl _⟩
theorem rtMay_eq (a : Nat) (b z m : Int) : rtMay ⟨a, b, z, m⟩ = decide (0 ≤ b ∧ b ≤ 32 ∧ bits .andNot .u32 (a : Int) (maskI b) = 0 ∧ 0 ≤ z ∧ z < 8 ∧ 68 ≤ m ∧ m ≤ 65535) := rfl
set_option maxHeartbeats 4000000 in
/-- May a route be? -/
theorem rmay_any13 (a : Nat) (b z m : Int) (w : World) : Calls Tryz.prog 42 #[.agg #[.int .u32 a, .int .i64 b, .int .i64 z, .int .i64 m]] w fun e w' => e = .returned (.bool (rtMay ⟨a, b, z, m⟩)) ∧ Junk w w' := by
  rw [rtMay_eq]
  by_cases hb : 0 ≤ b ∧ b ≤ 32
  case neg =>
    rw [decide_eq_false (fun h => hb ⟨h.1, h.2.1⟩)]
    by_cases hb0 : 0 ≤ b
    · have hb1 : ¬ b ≤ 32 := fun h => hb ⟨hb0, h⟩
      clear hb
      go_enter Tryz.func42, Tryz.ntmps42
      go_upto_region 1 with (fail)
      refine wp_region_junk (by kernel_rfl) (by kernel_rfl) ?_; (repeat (go_big_quiet_step (first | fail))); refine wpQuiet_nil ?_; rintro _ ⟨⟨osq, dq⟩, rfl⟩
      go_wp2
      go_ret
      exact ⟨rfl, by (exact jkc)⟩
    · clear hb
      go_enter Tryz.func42, Tryz.ntmps42
      go_upto_region 1 with (fail)
      refine wp_region_junk (by kernel_rfl) (by kernel_rfl) ?_; (repeat (go_big_quiet_step (first | fail))); refine wpQuiet_nil ?_; rintro _ ⟨⟨osq, dq⟩, rfl⟩
      go_wp2
      go_ret
      exact ⟨rfl, by (exact jkc)⟩
  have HM := Lib.hid (fun w => mask_any b hb w)
  have h1 := hb.1
  have h2 := hb.2
  obtain ⟨x, hx⟩ : ∃ x, bits .andNot .u32 (a : Int) (maskI b) = x := ⟨_, rfl⟩
  rw [hx]
  obtain ⟨k, hk⟩ : ∃ k, maskI b = k := ⟨_, rfl⟩
  rw [hk] at HM hx
  by_cases hx0 : x = 0
  case neg =>
    rw [decide_eq_false (fun h => hx0 h.2.2.1)]
    have hx1 : (x == 0) = false := by simpa using hx0
    clear hb hk hx0
    go_enter Tryz.func42, Tryz.ntmps42
    go_upto_region 1 with (fail)
    refine wp_region_junk (by kernel_rfl) (by kernel_rfl) ?_; (repeat (go_big_quiet_step (first | (go_at_call 61; exact Calls.junk_of (HM.out _))))); refine wpQuiet_nil ?_; rintro _ ⟨⟨osq, dq⟩, rfl⟩
    go_wp2
    go_ret
    exact ⟨rfl, by (exact jkc)⟩
  subst hx0
  clear hb hk
  by_cases h3 : 0 ≤ z
  case neg =>
    rw [decide_eq_false (fun h => h3 h.2.2.2.1)]
    go_enter Tryz.func42, Tryz.ntmps42
    go_upto_region 1 with (fail)
    refine wp_region_junk (by kernel_rfl) (by kernel_rfl) ?_; (repeat (go_big_quiet_step (first | (go_at_call 61; exact Calls.junk_of (HM.out _))))); refine wpQuiet_nil ?_; rintro _ ⟨⟨osq, dq⟩, rfl⟩
    go_wp2
    go_ret
    exact ⟨rfl, by (exact jkc)⟩
  by_cases h4 : z < 8
  case neg =>
    rw [decide_eq_false (fun h => h4 h.2.2.2.2.1)]
    go_enter Tryz.func42, Tryz.ntmps42
    go_upto_region 1 with (fail)
    refine wp_region_junk (by kernel_rfl) (by kernel_rfl) ?_; (repeat (go_big_quiet_step (first | (go_at_call 61; exact Calls.junk_of (HM.out _))))); refine wpQuiet_nil ?_; rintro _ ⟨⟨osq, dq⟩, rfl⟩
    go_wp2
    go_ret
    exact ⟨rfl, by (exact jkc)⟩
  by_cases h5 : 68 ≤ m
  case neg =>
    rw [decide_eq_false (fun h => h5 h.2.2.2.2.2.1)]
    go_enter Tryz.func42, Tryz.ntmps42
    go_upto_region 1 with (fail)
    refine wp_region_junk (by kernel_rfl) (by kernel_rfl) ?_; (repeat (go_big_quiet_step (first | (go_at_call 61; exact Calls.junk_of (HM.out _))))); refine wpQuiet_nil ?_; rintro _ ⟨⟨osq, dq⟩, rfl⟩
    go_wp2
    go_ret
    exact ⟨rfl, by (exact jkc)⟩
  by_cases h6 : m ≤ 65535
  case neg =>
    rw [decide_eq_false (fun h => h6 h.2.2.2.2.2.2)]
    go_enter Tryz.func42, Tryz.ntmps42
    go_upto_region 1 with (fail)
    refine wp_region_junk (by kernel_rfl) (by kernel_rfl) ?_; (repeat (go_big_quiet_step (first | (go_at_call 61; exact Calls.junk_of (HM.out _))))); refine wpQuiet_nil ?_; rintro _ ⟨⟨osq, dq⟩, rfl⟩
    go_wp2
    go_ret
    exact ⟨rfl, by (exact jkc)⟩
  rw [decide_eq_true ⟨h1, h2, rfl, h3, h4, h5, h6⟩]
  go_enter Tryz.func42, Tryz.ntmps42
  go_upto_region 1 with (fail)
  refine wp_region_junk (by kernel_rfl) (by kernel_rfl) ?_; (repeat (go_big_quiet_step (first | (go_at_call 61; exact Calls.junk_of (HM.out _))))); refine wpQuiet_nil ?_; rintro _ ⟨⟨osq, dq⟩, rfl⟩
  go_wp2
  go_ret
  exact ⟨rfl, by (exact jkc)⟩
theorem ruMay_eq (fr tt p : Int) (s d : Nat) (sb db lo hi a : Int) : ruMay ⟨fr, tt, p, s, d, sb, db, lo, hi, a⟩ = decide (-1 ≤ fr ∧ fr ≤ 7 ∧ -1 ≤ tt ∧ tt ≤ 7 ∧ 0 ≤ sb ∧ sb ≤ 32 ∧ 0 ≤ db ∧ db ≤ 32 ∧ 0 ≤ lo ∧ lo ≤ hi ∧ hi ≤ 65535 ∧ 0 ≤ p ∧ p ≤ 255 ∧ 1 ≤ a ∧ a ≤ 2) := rfl
set_option maxHeartbeats 8000000 in
/-- May a rule be? -/
theorem umay_any14 (fr tt p : Int) (s d : Nat) (sb db lo hi a : Int) (w : World) : Calls Tryz.prog 47 #[.agg #[.int .i64 fr, .int .i64 tt, .int .i64 p, .int .u32 s, .int .u32 d, .int .i64 sb, .int .i64 db, .int .i64 lo, .int .i64 hi, .int .i64 a]] w fun e w' => e = .returned (.bool (ruMay ⟨fr, tt, p, s, d, sb, db, lo, hi, a⟩)) ∧ Junk w w' := by
  rw [ruMay_eq]
  obtain ⟨d1, e1⟩ : ∃ x, decide (-1 ≤ fr ∧ fr ≤ 7) = x := ⟨_, rfl⟩
  obtain ⟨d2, e2⟩ : ∃ x, decide (-1 ≤ tt ∧ tt ≤ 7) = x := ⟨_, rfl⟩
  obtain ⟨d3, e3⟩ : ∃ x, decide (0 ≤ sb ∧ sb ≤ 32) = x := ⟨_, rfl⟩
  obtain ⟨d4, e4⟩ : ∃ x, decide (0 ≤ db ∧ db ≤ 32) = x := ⟨_, rfl⟩
  obtain ⟨d5, e5⟩ : ∃ x, decide (0 ≤ lo ∧ lo ≤ hi) = x := ⟨_, rfl⟩
  obtain ⟨d6, e6⟩ : ∃ x, decide (0 ≤ p ∧ p ≤ 255) = x := ⟨_, rfl⟩
  obtain ⟨d7, e7⟩ : ∃ x, decide (1 ≤ a ∧ a ≤ 2) = x := ⟨_, rfl⟩
  obtain ⟨d8, e8⟩ : ∃ x, decide (hi ≤ 65535) = x := ⟨_, rfl⟩
  have hall : decide (-1 ≤ fr ∧ fr ≤ 7 ∧ -1 ≤ tt ∧ tt ≤ 7 ∧ 0 ≤ sb ∧ sb ≤ 32 ∧ 0 ≤ db ∧ db ≤ 32 ∧ 0 ≤ lo ∧ lo ≤ hi ∧ hi ≤ 65535 ∧ 0 ≤ p ∧ p ≤ 255 ∧ 1 ≤ a ∧ a ≤ 2) = (d1 && d2 && (d3 && d4) && (d5 && d8) && d6 && d7) := by
    rw [← e1, ← e2, ← e3, ← e4, ← e5, ← e6, ← e7, ← e8, Bool.eq_iff_iff]
    simp only [Bool.and_eq_true, decide_eq_true_eq]
    constructor
    · intro h; omega
    · intro h; omega
  rw [hall]
  have w1 := Lib.hid (fun w => show Calls Tryz.prog 64 #[.int .i64 fr, .int .i64 (-1), .int .i64 7] w fun e w' => e = .returned (.bool d1) ∧ w' = w from e1 ▸ within14_any fr (-1) 7 w)
  have w2 := Lib.hid (fun w => show Calls Tryz.prog 64 #[.int .i64 tt, .int .i64 (-1), .int .i64 7] w fun e w' => e = .returned (.bool d2) ∧ w' = w from e2 ▸ within14_any tt (-1) 7 w)
  have w3 := Lib.hid (fun w => show Calls Tryz.prog 64 #[.int .i64 sb, .int .i64 0, .int .i64 32] w fun e w' => e = .returned (.bool d3) ∧ w' = w from e3 ▸ within14_any sb 0 32 w)
  have w4 := Lib.hid (fun w => show Calls Tryz.prog 64 #[.int .i64 db, .int .i64 0, .int .i64 32] w fun e w' => e = .returned (.bool d4) ∧ w' = w from e4 ▸ within14_any db 0 32 w)
  have w5 := Lib.hid (fun w => show Calls Tryz.prog 64 #[.int .i64 lo, .int .i64 0, .int .i64 hi] w fun e w' => e = .returned (.bool d5) ∧ w' = w from e5 ▸ within14_any lo 0 hi w)
  have w6 := Lib.hid (fun w => show Calls Tryz.prog 64 #[.int .i64 p, .int .i64 0, .int .i64 255] w fun e w' => e = .returned (.bool d6) ∧ w' = w from e6 ▸ within14_any p 0 255 w)
  have w7 := Lib.hid (fun w => show Calls Tryz.prog 64 #[.int .i64 a, .int .i64 1, .int .i64 2] w fun e w' => e = .returned (.bool d7) ∧ w' = w from e7 ▸ within14_any a 1 2 w)
  clear e1 e2 e3 e4 e5 e6 e7 hall
  go_enter Tryz.func47, Tryz.ntmps47
  go_wp2_with (go_at_call 64; first
    | ((with_reducible refine (w1.out _).mono ?_); rintro e v ⟨rfl, rfl⟩)
    | ((with_reducible refine (w2.out _).mono ?_); rintro e v ⟨rfl, rfl⟩)
    | ((with_reducible refine (w3.out _).mono ?_); rintro e v ⟨rfl, rfl⟩)
    | ((with_reducible refine (w4.out _).mono ?_); rintro e v ⟨rfl, rfl⟩)
    | ((with_reducible refine (w5.out _).mono ?_); rintro e v ⟨rfl, rfl⟩)
    | ((with_reducible refine (w6.out _).mono ?_); rintro e v ⟨rfl, rfl⟩)
    | ((with_reducible refine (w7.out _).mono ?_); rintro e v ⟨rfl, rfl⟩))
  all_goals go_ret
  all_goals refine ⟨?_, by (exact jkc)⟩
  all_goals first | rfl | (simp_all; done) | trace_state
end Go.Proofs.YtcnhlbkdhhjmiaaGreatDoor
