/- Right forwards: the small part; the closures of the three Right. -/
import Derived.Test.YtcnhlbkdhhjmiaaGreatDoorCfL
set_option linter.unusedVariables false
set_option maxRecDepth 100000
set_option linter.unusedSimpArgs false
namespace Go.Proofs.YtcnhlbkdhhjmiaaGreatDoor
open Go.RowKit
variable {L L' : Nat → Prop} {w w' w'' : World}
theorem fwMay_eq (lo hi p q t : Int) (a : Nat) (x : Bool) : fwMay lo hi ⟨p, q, a, t, x⟩ = decide ((p = 6 ∨ (p = 17 ∧ x = false)) ∧ 1 ≤ q ∧ q ≤ 65535 ∧ 1 ≤ t ∧ t ≤ 65535 ∧ ¬ (lo ≤ q ∧ q ≤ hi)) := rfl
set_option maxHeartbeats 8000000 in
/-- May a forward be? -/
theorem fmay_any15 (o0 : Option Addr) (n0 c0 : Nat) (o1 : Option Addr) (n1 c1 : Nat) (ou : Int) (pu : Nat) (lo hi : Int) (o6 : Option Addr) (n6 c6 : Nat) (tc ot bu : Int) (p q t : Int) (a : Nat) (x : Bool) (w : World) :
    Calls Tryz.prog 27 #[.agg #[.slice o0 n0 c0, .slice o1 n1 c1, .int .i64 ou, .int .u32 pu, .int .i64 lo, .int .i64 hi, .slice o6 n6 c6, .int .i64 tc, .int .i64 ot, .int .i64 bu], .agg #[.int .i64 p, .int .i64 q, .int .u32 a, .int .i64 t, .bool x]] w fun e w' => e = .returned (.bool (fwMay lo hi ⟨p, q, a, t, x⟩)) ∧ Junk w w' := by
  rw [fwMay_eq]
  obtain ⟨d1, e1⟩ : ∃ x, decide (1 ≤ q ∧ q ≤ 65535) = x := ⟨_, rfl⟩
  obtain ⟨d2, e2⟩ : ∃ x, decide (1 ≤ t ∧ t ≤ 65535) = x := ⟨_, rfl⟩
  obtain ⟨d3, e3⟩ : ∃ x, decide (lo ≤ q ∧ q ≤ hi) = x := ⟨_, rfl⟩
  obtain ⟨d4, e4⟩ : ∃ x, (p == 6) = x := ⟨_, rfl⟩
  obtain ⟨d5, e5⟩ : ∃ x, (p == 17) = x := ⟨_, rfl⟩
  have hall : decide ((p = 6 ∨ (p = 17 ∧ x = false)) ∧ 1 ≤ q ∧ q ≤ 65535 ∧ 1 ≤ t ∧ t ≤ 65535 ∧ ¬ (lo ≤ q ∧ q ≤ hi)) = ((d4 || (d5 && !x)) && d1 && d2 && !d3) := by
    rw [← e1, ← e2, ← e3, ← e4, ← e5, Bool.eq_iff_iff]
    simp only [Bool.and_eq_true, Bool.or_eq_true, decide_eq_true_eq, beq_iff_eq, Bool.not_eq_true', decide_eq_false_iff_not]
    constructor
    · rintro ⟨h1, h2, h3, h4, h5, h6⟩; exact ⟨⟨⟨h1, h2, h3⟩, h4, h5⟩, h6⟩
    · rintro ⟨⟨⟨h1, h2, h3⟩, h4, h5⟩, h6⟩; exact ⟨h1, h2, h3, h4, h5, h6⟩
  rw [hall]
  have w1 := Lib.hid (fun w => show Calls Tryz.prog 26 #[.int .i64 q, .int .i64 1, .int .i64 65535] w fun e w' => e = .returned (.bool d1) ∧ w' = w from e1 ▸ within_any q 1 65535 w)
  have w2 := Lib.hid (fun w => show Calls Tryz.prog 26 #[.int .i64 t, .int .i64 1, .int .i64 65535] w fun e w' => e = .returned (.bool d2) ∧ w' = w from e2 ▸ within_any t 1 65535 w)
  have w3 := Lib.hid (fun w => show Calls Tryz.prog 26 #[.int .i64 q, .int .i64 lo, .int .i64 hi] w fun e w' => e = .returned (.bool d3) ∧ w' = w from e3 ▸ within_any q lo hi w)
  clear e1 e2 e3 hall
  go_enter Tryz.func27, Tryz.ntmps27
  go_wp2_with (go_at_call 26; first
    | ((with_reducible refine (w1.out _).mono ?_); rintro e v ⟨rfl, rfl⟩)
    | ((with_reducible refine (w2.out _).mono ?_); rintro e v ⟨rfl, rfl⟩)
    | ((with_reducible refine (w3.out _).mono ?_); rintro e v ⟨rfl, rfl⟩))
  all_goals go_ret
  all_goals refine ⟨?_, by (exact jkc)⟩
  all_goals first | rfl | (simp_all; done) | trace_state
/-- The closure of route.Right: the same net. -/
theorem rsame_any13 (a : Nat) (b z m : Int) (a2 : Nat) (b2 z2 m2 : Int) (g : Nat) (w : World) (h0 : w.cell? ⟨g, 0, none⟩ = some (.int .u32 a2)) (h1 : w.cell? ⟨g, 1, none⟩ = some (.int .i64 b2)) :
    Calls Tryz.prog 44 #[.agg #[.int .u32 a, .int .i64 b, .int .i64 z, .int .i64 m], .pointer (some ⟨g, 0, none⟩)] w fun e w' => e = .returned (.bool (rtSame ⟨a, b, z, m⟩ ⟨a2, b2, z2, m2⟩)) ∧ Junk w w' := by
  have hlt : g < w.heap.size := World.block_lt_of_cell? w _ h0
  have hv : rtSame ⟨a, b, z, m⟩ ⟨a2, b2, z2, m2⟩ = (((a : Int) == (a2 : Int)) && (b == b2)) := by
    unfold rtSame
    rw [Bool.eq_iff_iff]
    simp only [Bool.and_eq_true, decide_eq_true_eq, beq_iff_eq]
    omega
  rw [hv]
  clear hv
  go_enter Tryz.func44, Tryz.ntmps44
  go_wp2
  all_goals go_ret
  all_goals refine ⟨?_, by (exact jkc)⟩
  all_goals first | rfl | (simp_all; done) | trace_state
/-- The closure of rules.Right: no rule. -/
theorem unot_any14 (r : Ru) (w : World) : Calls Tryz.prog 46 #[.agg r.cells.toArray] w fun e w' => e = .returned (.bool (!ruMay r)) ∧ Junk w w' := by
  obtain ⟨fr, tt, p, s, d, sb, db, lo, hi, a⟩ := r
  have HM := Lib.hid (fun w => umay_any14 fr tt p s d sb db lo hi a w)
  obtain ⟨v, hv⟩ : ∃ v, ruMay ⟨fr, tt, p, s, d, sb, db, lo, hi, a⟩ = v := ⟨_, rfl⟩
  rw [hv] at HM ⊢
  clear hv
  show Calls Tryz.prog 46 #[.agg #[.int .i64 fr, .int .i64 tt, .int .i64 p, .int .u32 s, .int .u32 d, .int .i64 sb, .int .i64 db, .int .i64 lo, .int .i64 hi, .int .i64 a]] w _
  go_enter Tryz.func46, Tryz.ntmps46
  go_wp2_with (go_at_call 47; (refine (HM.out _).mono ?_; rintro e v ⟨rfl, ⟨os, d2, rfl⟩⟩))
  go_ret
  exact ⟨rfl, by (exact jkc)⟩
/-- The closure of conf.Right: the same port. -/
theorem fsame_any15 (p q t : Int) (a : Nat) (x : Bool) (p2 q2 t2 : Int) (a2 : Nat) (x2 : Bool) (g : Nat) (w : World) (h0 : w.cell? ⟨g, 0, none⟩ = some (.int .i64 p2)) (h1 : w.cell? ⟨g, 1, none⟩ = some (.int .i64 q2)) :
    Calls Tryz.prog 29 #[.agg #[.int .i64 p, .int .i64 q, .int .u32 a, .int .i64 t, .bool x], .pointer (some ⟨g, 0, none⟩)] w fun e w' => e = .returned (.bool (fwSame ⟨p, q, a, t, x⟩ ⟨p2, q2, a2, t2, x2⟩)) ∧ Junk w w' := by
  have hlt : g < w.heap.size := World.block_lt_of_cell? w _ h0
  have hv : fwSame ⟨p, q, a, t, x⟩ ⟨p2, q2, a2, t2, x2⟩ = ((p == p2) && (q == q2)) := by
    unfold fwSame
    rw [Bool.eq_iff_iff]
    simp only [Bool.and_eq_true, decide_eq_true_eq, beq_iff_eq]
  rw [hv]
  clear hv
  go_enter Tryz.func29, Tryz.ntmps29
  go_wp2
  all_goals go_ret
  all_goals refine ⟨?_, by (exact jkc)⟩
  all_goals first | rfl | (simp_all; done) | trace_state
end Go.Proofs.YtcnhlbkdhhjmiaaGreatDoor
