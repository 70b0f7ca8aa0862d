/- The law ChalMays: what is between the acknowledged number and the end may always be acknowledged; what is ahead of all, never. -/
import Derived.Test.YticijhpgapcecaaChalAwake
set_option linter.unusedVariables false
set_option linter.unusedSimpArgs false
namespace Go.Proofs.Yticijhpgapcecaa
open Go.RowKit
theorem may_out (a u e w : Int) (h : w < 0 ∨ 1073741824 < w) : mayB a u e w = false := by
  have : withinB w 0 1073741824 = false := by simp [withinB]; omega
  simp [mayB, this]
theorem may_in (a u e w : Int) (h : 0 ≤ w ∧ w ≤ 1073741824) : mayB a u e w = inB a (stepI u (-w)) e := by
  have : withinB w 0 1073741824 = true := by simp [withinB]; omega
  have h2 : wrap64 (-w) = -w := by unfold wrap64; omega
  simp [mayB, this, h2]
theorem sub_mod32 (a b : Int) : (a % 4294967296 - b % 4294967296) % 4294967296 = (a - b) % 4294967296 := by omega
theorem mod_add32 (a b : Int) : (a % 4294967296 + b) % 4294967296 = (a + b) % 4294967296 := by omega
set_option maxHeartbeats 1000000 in
theorem chalMays_out (una size att more win : Int) (w : World) (hu : 0 ≤ una ∧ una ≤ 4294967295) (hs : 0 ≤ size ∧ size ≤ 4294967295) (ht : 0 ≤ att ∧ att ≤ 4294967295) (hm : 0 ≤ more ∧ more ≤ 4294967295)
    (hw : -9223372036854775808 ≤ win ∧ win ≤ 9223372036854775807) (ho : win < 0 ∨ 1073741824 < win) :
    Calls Try.prog 6 #[.int .u32 una, .int .u32 size, .int .u32 att, .int .u32 more, .int .i64 win] w fun e w' => e = .returned (.bool true) ∧ Junk w w' := by
  have J := fun a u e => may_out a u e win ho
  rcases ho with ho | ho
  all_goals
    go_enter Try.func6, Try.ntmps6
    go_wp2_with (first | (go_at_call 14; refine (awake20_any _).mono ?_; rintro e w' ⟨rfl, ⟨osj, dj, rfl⟩⟩) | (go_at_call 17; refine (step_any _ _ _).mono ?_; rintro e w' ⟨rfl, rfl⟩) | (go_at_call 22; refine (may_any _ _ _ _ _).mono ?_; rintro e w' ⟨rfl, rfl⟩))
    go_ret
    exact ⟨ret_bool rfl, by (repeat (first | exact Junk.refl _ | apply Junk.alloc | apply Junk.junk | apply Junk.drew | apply Junk.drewN))⟩
set_option maxHeartbeats 1000000 in
theorem chalMays_in (una size att more win : Int) (w : World) (hu : 0 ≤ una ∧ una ≤ 4294967295) (hs : 0 ≤ size ∧ size ≤ 4294967295) (ht : 0 ≤ att ∧ att ≤ 4294967295) (hm : 0 ≤ more ∧ more ≤ 4294967295)
    (hw : 0 ≤ win) (hw2 : win ≤ 1073741824) :
    Calls Try.prog 6 #[.int .u32 una, .int .u32 size, .int .u32 att, .int .u32 more, .int .i64 win] w fun e w' => e = .returned (.bool true) ∧ Junk w w' := by
  have e1 : stepI una (size % 1073741824) = (una + size % 1073741824) % 4294967296 := rfl
  have hq := Int.emod_nonneg att (b := size % 1073741824 + 1) (by omega)
  have hq2 := Int.emod_lt_of_pos att (b := size % 1073741824 + 1) (by omega)
  have J1 : mayB (stepI una (att % (size % 1073741824 + 1))) una (stepI una (size % 1073741824)) win = true := by
    rw [may_in _ _ _ _ ⟨hw, hw2⟩]; simp only [inB, stepI, decide_eq_true_eq, sub_mod32, mod_add32]
    generalize att % (size % 1073741824 + 1) = q at hq hq2 ⊢
    omega
  have J2 : mayB (stepI (stepI una (size % 1073741824)) (more % 1073741823 + 1)) una (stepI una (size % 1073741824)) win = false := by
    rw [may_in _ _ _ _ ⟨hw, hw2⟩]; simp only [inB, stepI, decide_eq_false_iff_not, sub_mod32, mod_add32]; omega
  have J3 : mayB (stepI una (-win)) una (stepI una (size % 1073741824)) win = true := by
    rw [may_in _ _ _ _ ⟨hw, hw2⟩]; simp only [inB, stepI, decide_eq_true_eq, sub_mod32, mod_add32]; omega
  clear e1
  go_enter Try.func6, Try.ntmps6
  go_wp2_with (first | (go_at_call 14; refine (awake20_any _).mono ?_; rintro e w' ⟨rfl, ⟨osj, dj, rfl⟩⟩) | (go_at_call 17; refine (step_any _ _ _).mono ?_; rintro e w' ⟨rfl, rfl⟩) | (go_at_call 22; refine (may_any _ _ _ _ _).mono ?_; rintro e w' ⟨rfl, rfl⟩))
  go_ret
  exact ⟨ret_bool rfl, by (repeat (first | exact Junk.refl _ | apply Junk.alloc | apply Junk.junk | apply Junk.drew | apply Junk.drewN))⟩

theorem chalMays_core (W : World) (base : Nat) (v0 v1 v2 v3 v4 : Value) (a0 : Arg Try.prog W base 30 v0) (a1 : Arg Try.prog W base 30 v1) (a2 : Arg Try.prog W base 30 v2) (a3 : Arg Try.prog W base 30 v3) (a4 : Arg Try.prog W base 3 v4) :
    Calls Try.prog 6 #[v0, v1, v2, v3, v4] W fun e W' => e = .returned (.bool true) ∧ Junk W W' := by
  obtain ⟨una, rfl, w0⟩ := a0.int Try.underlying30
  obtain ⟨size, rfl, w1⟩ := a1.int Try.underlying30
  obtain ⟨att, rfl, w2⟩ := a2.int Try.underlying30
  obtain ⟨more, rfl, w3⟩ := a3.int Try.underlying30
  obtain ⟨win, rfl, w4⟩ := a4.int Try.underlying3
  have w4' := bounds_i64 w4
  by_cases h : 0 ≤ win ∧ win ≤ 1073741824
  · exact chalMays_in una size att more win W (bounds_u32 w0) (bounds_u32 w1) (bounds_u32 w2) (bounds_u32 w3) h.1 h.2
  · exact chalMays_out una size att more win W (bounds_u32 w0) (bounds_u32 w1) (bounds_u32 w2) (bounds_u32 w3) w4' (by omega)
set_option maxRecDepth 100000 in
theorem chalMays_lifted (os : Os) (started : os.Started) (H : Type) (enc : TypeId × Value → H) :
    ReturnsInHanded {} Try.checked os 6 .any (Rows.chalMaysSpec.pre6 enc Try.prog Try.f6 Rows.chalMaysRow.domain false) (Rows.chalMaysSpec.post enc Try.prog Try.f6 false true false false) := by
  refine returnsInHanded_of_change (C := Try.checked) (by kernel_rfl) started (by kernel_rfl) Try.func6
    (ChangeSpec.witness6 (enc := enc) (C := Try.checked) false ⟨#[], #[.int .u32 0, .int .u32 0, .int .u32 0, .int .u32 0, .int .i64 0], []⟩ 8 (by kernel_rfl) (by kernel_rfl) (by kernel_rfl) (by kernel_rfl)) ?_
  intro W base args ds gs before hval hW _ _
  obtain ⟨p, q, hA, _, _, _, _⟩ := id hW
  have hargs : Args Try.prog W base Try.f6.params.toList args.toList := args_of (fun j t v h1 h2 => hval j t v (by simpa using h1) (by simpa using h2)) hA
  rw [Try.params6] at hargs
  obtain ⟨v0, l0, e0, a0, r0⟩ := args_cons hargs
  obtain ⟨v1, l1, e1, a1, r1⟩ := args_cons r0
  obtain ⟨v2, l2, e2, a2, r2⟩ := args_cons r1
  obtain ⟨v3, l3, e3, a3, r3⟩ := args_cons r2
  obtain ⟨v4, l4, e4, a4, r4⟩ := args_cons r3
  have hn := args_nil r4
  have he : args = #[v0, v1, v2, v3, v4] := by
    apply Array.ext'
    simp only [e0, e1, e2, e3, e4, hn]
  subst he
  exact (chalMays_core W base v0 v1 v2 v3 v4 a0 a1 a2 a3 a4).mono fun e W' ⟨he, hj⟩ => ⟨_, he, post_true (tb := 4) (by kernel_rfl) (by kernel_rfl) rfl (by kernel_rfl) rfl hW (fun hg hl => by
    subst hg
    match ds, hl with
    | [_, _, _, _, _], _ => exact ⟨rfl, rfl, rfl⟩) hj⟩
theorem chalMays_holds : Rows.ChalMaysSaid :=
  OpenClaim.holds_of_wide 6 Try.f6 rfl rfl rfl rfl rfl rfl rfl ⟨rfl, rfl, rfl, rfl, rfl⟩ rfl rfl rfl rfl rfl (by kernel_rfl) Try.func6 (by kernel_rfl)
    (of_decide_eq_true (by kernel_rfl)) (by unfold Func.isWrapper; rw [if_neg (of_decide_eq_false (by kernel_rfl))]; exact ⟨rfl, rfl⟩)
    (fun os started H enc _ => chalMays_lifted os started H enc)

end Go.Proofs.Yticijhpgapcecaa
