/- The law ChalOne: for a reset just the expected number is taken, those ahead of it in the window are challenged, and no others; turned by the same numbers it is judged the same. -/
import Derived.Test.YticijhpgapcecaaChalAwake
set_option linter.unusedVariables false
set_option linter.unusedSimpArgs false
namespace Go.Proofs.Yticijhpgapcecaa
open Go.RowKit
theorem judge4 (sq next w : Int) (hw : 0 ≤ w ∧ w < 1073741824) : judgeI 4 sq next w = if sq = next then 1 else if 1 ≤ distI next sq ∧ distI next sq < w then 2 else 3 := by
  have h1 : withinB w 0 1073741824 = true := by simp [withinB]; omega
  have h2 : (bits .and .i64 4 4 == 0) = false := by decide +kernel
  have h3 : wrap64 (w - 1) = w - 1 := by unfold wrap64; omega
  simp only [judgeI, h1, h2, h3, withinB, Bool.and_eq_true, decide_eq_true_eq, beq_iff_eq]
  by_cases e : sq = next
  · simp [e]; omega
  · simp only [e, if_false]
    by_cases h : 1 ≤ distI next sq ∧ distI next sq < w
    · simp [h]; omega
    · simp [h]; omega
theorem dist_step (a d : Int) (ha : 0 ≤ a ∧ a ≤ 4294967295) (hd : -2147483648 ≤ d ∧ d ≤ 2147483647) : distI a (stepI a d) = d := by
  unfold distI stepI wrap32; omega
theorem dist_turn (a d t : Int) (ha : 0 ≤ a ∧ a ≤ 4294967295) (hd : -2147483648 ≤ d ∧ d ≤ 2147483647) : distI ((a + t) % 4294967296) ((stepI a d + t) % 4294967296) = d := by
  unfold distI stepI wrap32; omega
theorem step_eq (a d : Int) (ha : 0 ≤ a ∧ a ≤ 4294967295) (hd : -2147483648 ≤ d ∧ d ≤ 2147483647) : (stepI a d = a) = (d = 0) := by
  unfold stepI; rw [eq_iff_iff]; omega
theorem step_turn (a d t : Int) (ha : 0 ≤ a ∧ a ≤ 4294967295) (hd : -2147483648 ≤ d ∧ d ≤ 2147483647) : ((stepI a d + t) % 4294967296 = (a + t) % 4294967296) = (d = 0) := by
  unfold stepI; rw [eq_iff_iff]; omega
def wantI (d w : Int) : Int := if d = 0 then 1 else if 1 ≤ d ∧ d < w then 2 else 3
set_option maxHeartbeats 1000000 in
theorem chalOne_walk (next d win turn k : Int) (w : World) (hn : 0 ≤ next ∧ next ≤ 4294967295) (hd : -2147483648 ≤ d ∧ d ≤ 2147483647) (hw : 0 ≤ win ∧ win ≤ 4294967295) (ht : 0 ≤ turn ∧ turn ≤ 4294967295)
    (hk : wantI d (win % 1073741824) = k) :
    Calls Try.prog 4 #[.int .u32 next, .int .i32 d, .int .u32 win, .int .u32 turn] w fun e w' => e = .returned (.bool true) ∧ Junk w w' := by
  have J1 : judgeI 4 (stepI next d) next (win % 1073741824) = k := by
    rw [judge4 _ _ _ (by omega), dist_step _ _ hn hd]; simp only [step_eq _ _ hn hd]; exact hk
  have J2 : judgeI 4 ((stepI next d + turn) % 4294967296) ((next + turn) % 4294967296) (win % 1073741824) = k := by
    rw [judge4 _ _ _ (by omega), dist_turn _ _ _ hn hd]; simp only [step_turn _ _ _ hn hd]; exact hk
  have hc : (d = 0 ∧ k = 1) ∨ (0 < d ∧ d < win % 1073741824 ∧ k = 2) ∨ (d < 0 ∧ k = 3) ∨ (0 < d ∧ win % 1073741824 ≤ d ∧ k = 3) := by
    unfold wantI at hk; split at hk
    · omega
    · split at hk <;> omega
  clear hk
  rcases hc with ⟨h1, rfl⟩ | ⟨h1, h2, rfl⟩ | ⟨h1, rfl⟩ | ⟨h1, h2, rfl⟩
  case' inl => subst h1
  all_goals
    go_enter Try.func4, Try.ntmps4
    go_wp2_with (first | (go_at_call 14; refine (awake20_any _).mono ?_; rintro e w' ⟨rfl, ⟨osj, dj, rfl⟩⟩) | (go_at_call 17; refine (step_any _ _ _).mono ?_; rintro e w' ⟨rfl, rfl⟩) | (go_at_call 18; refine (judge_any _ _ _ _ _ _ _ _ _ _ _ _).mono ?_; rintro e w' ⟨rfl, ⟨osj, dj, rfl⟩⟩))
    go_ret
    exact ⟨ret_bool rfl, by (repeat (first | exact Junk.refl _ | apply Junk.alloc | apply Junk.junk | apply Junk.drew | apply Junk.drewN))⟩

theorem chalOne_core (W : World) (base : Nat) (v0 v1 v2 v3 : Value) (a0 : Arg Try.prog W base 30 v0) (a1 : Arg Try.prog W base 21 v1) (a2 : Arg Try.prog W base 30 v2) (a3 : Arg Try.prog W base 30 v3) :
    Calls Try.prog 4 #[v0, v1, v2, v3] W fun e W' => e = .returned (.bool true) ∧ Junk W W' := by
  obtain ⟨next, rfl, w0⟩ := a0.int Try.underlying30
  obtain ⟨d, rfl, w1⟩ := a1.int Try.underlying21
  obtain ⟨win, rfl, w2⟩ := a2.int Try.underlying30
  obtain ⟨turn, rfl, w3⟩ := a3.int Try.underlying30
  exact chalOne_walk next d win turn _ W (bounds_u32 w0) (bounds_i32 w1) (bounds_u32 w2) (bounds_u32 w3) rfl
set_option maxRecDepth 100000 in
theorem chalOne_lifted (os : Os) (started : os.Started) (H : Type) (enc : TypeId × Value → H) :
    ReturnsInHanded {} Try.checked os 4 .any (Rows.chalOneSpec.pre6 enc Try.prog Try.f4 Rows.chalOneRow.domain false) (Rows.chalOneSpec.post enc Try.prog Try.f4 false true false false) := by
  refine returnsInHanded_of_change (C := Try.checked) (by kernel_rfl) started (by kernel_rfl) Try.func4
    (ChangeSpec.witness6 (enc := enc) (C := Try.checked) false ⟨#[], #[.int .u32 0, .int .i32 0, .int .u32 0, .int .u32 0], []⟩ 8 (by kernel_rfl) (by kernel_rfl) (by kernel_rfl) (by kernel_rfl)) ?_
  intro W base args ds gs before hval hW _ _
  obtain ⟨p, q, hA, _, _, _, _⟩ := id hW
  have hargs : Args Try.prog W base Try.f4.params.toList args.toList := args_of (fun j t v h1 h2 => hval j t v (by simpa using h1) (by simpa using h2)) hA
  rw [Try.params4] at hargs
  obtain ⟨v0, l0, e0, a0, r0⟩ := args_cons hargs
  obtain ⟨v1, l1, e1, a1, r1⟩ := args_cons r0
  obtain ⟨v2, l2, e2, a2, r2⟩ := args_cons r1
  obtain ⟨v3, l3, e3, a3, r3⟩ := args_cons r2
  have hn := args_nil r3
  have he : args = #[v0, v1, v2, v3] := by
    apply Array.ext'
    simp only [e0, e1, e2, e3, hn]
  subst he
  exact (chalOne_core W base v0 v1 v2 v3 a0 a1 a2 a3).mono fun e W' ⟨he, hj⟩ => ⟨_, he, post_true (tb := 4) (by kernel_rfl) (by kernel_rfl) rfl (by kernel_rfl) rfl hW (fun hg hl => by
    subst hg
    match ds, hl with
    | [_, _, _, _], _ => exact ⟨rfl, rfl, rfl⟩) hj⟩
theorem chalOne_holds : Rows.ChalOneSaid :=
  OpenClaim.holds_of_wide 4 Try.f4 rfl rfl rfl rfl rfl rfl rfl ⟨rfl, rfl, rfl, rfl, rfl⟩ rfl rfl rfl rfl rfl (by kernel_rfl) Try.func4 (by kernel_rfl)
    (of_decide_eq_true (by kernel_rfl)) (by unfold Func.isWrapper; rw [if_neg (of_decide_eq_false (by kernel_rfl))]; exact ⟨rfl, rfl⟩)
    (fun os started H enc _ => chalOne_lifted os started H enc)

end Go.Proofs.Yticijhpgapcecaa
