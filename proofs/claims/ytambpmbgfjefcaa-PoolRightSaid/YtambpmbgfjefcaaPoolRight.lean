/- The law PoolRight: of any span, and any taken ports, as many are free, and that one is chosen, as the document says. -/
import Derived.Test.YtambpmbgfjefcaaPoolR
set_option linter.unusedVariables false
set_option maxRecDepth 100000
set_option linter.unusedSimpArgs false
namespace Go.Proofs.Ytambpmbgfjefcaa
open Go.RowKit
set_option maxHeartbeats 1000000 in
theorem rchoose_bad (lo hi : Int) (oa : Option Addr) (l c : Nat) (wish D : Int) (w : World) (hr : rightB lo hi = false) :
    Calls Try.prog 13 #[.int .i64 lo, .int .i64 hi, .slice oa l c, .int .i64 wish, .int .u32 D] w fun e w' => e = .returned (.tuple #[.int .i64 0, .bool false]) ∧ w = w' := by
  have HR := Lib.hid hr
  clear hr
  rcases tmod_cases wish with ⟨hpm, hpe⟩ | ⟨hpm, hpe⟩ | ⟨hpm, hpe⟩
  · go_enter Try.func13, Try.ntmps13
    go_wp2_with (first | (go_at_call 17; refine (rlist_bad lo hi oa l c _ _ HR.out).mono ?_; rintro e w' ⟨rfl, rfl⟩))
    refine wp_loop_rounds 1 ?_
    rw [rounds_succ]
    go_wp2_with (first | (go_at_call 17; refine (rlist_bad lo hi oa l c _ _ HR.out).mono ?_; rintro e w' ⟨rfl, rfl⟩))
    go_returns
    exact ⟨rfl, rfl⟩
  · go_enter Try.func13, Try.ntmps13
    go_wp2_with (first | (go_at_call 17; refine (rlist_bad lo hi oa l c _ _ HR.out).mono ?_; rintro e w' ⟨rfl, rfl⟩))
    refine wp_loop_rounds 1 ?_
    rw [rounds_succ]
    go_wp2_with (first | (go_at_call 17; refine (rlist_bad lo hi oa l c _ _ HR.out).mono ?_; rintro e w' ⟨rfl, rfl⟩))
    go_returns
    exact ⟨rfl, rfl⟩
  · go_enter Try.func13, Try.ntmps13
    go_wp2_with (first | (go_at_call 17; refine (rlist_bad lo hi oa l c _ _ HR.out).mono ?_; rintro e w' ⟨rfl, rfl⟩))
    refine wp_loop_rounds 1 ?_
    rw [rounds_succ]
    go_wp2_with (first | (go_at_call 17; refine (rlist_bad lo hi oa l c _ _ HR.out).mono ?_; rintro e w' ⟨rfl, rfl⟩))
    go_returns
    exact ⟨rfl, rfl⟩
set_option maxHeartbeats 1000000 in
theorem poolRight_core (W : World) (base : Nat) (v0 v1 v2 v3 v4 : Value) (a0 : Arg Try.prog W base 3 v0) (a1 : Arg Try.prog W base 3 v1) (a2 : Arg Try.prog W base 22 v2) (a3 : Arg Try.prog W base 3 v3) (a4 : Arg Try.prog W base 23 v4) :
    Calls Try.prog 3 #[v0, v1, v2, v3, v4] W fun e W' => e = .returned (.bool true) ∧ Junk W W' := by
  obtain ⟨lo, rfl, w_lo⟩ := a0.int Try.underlying3
  obtain ⟨hi, rfl, w_hi⟩ := a1.int Try.underlying3
  have f_taken := a2.slice Try.underlying22
  obtain ⟨taken_a, taken_l, taken_c, taken, e_taken, lc_taken, cm_taken, S_taken, w_taken⟩ := f_taken.ints Try.underlying22 Try.underlying3 (by kernel_rfl); cases e_taken
  obtain ⟨wish, rfl, w_wish⟩ := a3.int Try.underlying3
  obtain ⟨draw, rfl, w_draw⟩ := a4.int Try.underlying23
  have b_lo := bounds_i64 w_lo
  have b_hi := bounds_i64 w_hi
  have b_draw := bounds_u32 w_draw
  obtain ⟨D, rfl⟩ : ∃ D : Nat, draw = (D : Int) := ⟨draw.toNat, by omega⟩
  have hD : D < 4294967296 := by omega
  have HS := Lib.hid S_taken
  clear S_taken w_taken
  cases hsh : short16 lo hi taken_l with
  | false =>
    go_enter Try.func3, Try.ntmps3
    go_wp2_with (first
        | (go_at_call 10; refine (awake16_any _).mono ?_; rintro e w' ⟨rfl, ⟨osj, dj, rfl⟩⟩)
        | (go_at_call 11; refine (short16_any lo hi taken_a taken_l taken_c _ b_lo b_hi).mono ?_; rintro e w' ⟨rfl, rfl⟩; rw [hsh]))
    go_ret
    exact ⟨ret_bool rfl, by ((try simp only [World.junk_junk, Array.append_assoc]); (repeat (first | with_reducible exact Junk.refl _ | with_reducible exact Junk.app _ _ _ _ _ | with_reducible exact Junk.app2 _ _ _ _ _ _ | with_reducible exact Junk.app3 _ _ _ _ _ _ _ | with_reducible exact Junk.app4 _ _ _ _ _ _ _ _ | with_reducible exact Junk.app5 _ _ _ _ _ _ _ _ _ | with_reducible apply Junk.alloc | with_reducible apply Junk.junk | with_reducible apply Junk.drew | with_reducible apply Junk.drewN)))⟩
  | true =>
    cases hr : rightB lo hi with
    | false =>
      have ht : taken_l ≤ 100 := by have := hsh; simp [short16, hr] at this; exact this
      have HC := Lib.hid (show poolChoose lo hi taken taken_l wish D = (0, false) by unfold poolChoose; rw [if_pos hr])
      have HF := Lib.hid (show poolFree lo hi taken taken_l = 0 by unfold poolFree; rw [hr]; rfl)
      have HR := Lib.hid hr
      have HSH := Lib.hid hsh
      clear hr hsh
      go_enter Try.func3, Try.ntmps3
      go_wp2_with (first
        | (go_at_call 10; refine (awake16_any _).mono ?_; rintro e w' ⟨rfl, ⟨osj, dj, rfl⟩⟩)
        | (go_at_call 11; refine (short16_any lo hi taken_a taken_l taken_c _ b_lo b_hi).mono ?_; rintro e w' ⟨rfl, rfl⟩; rw [HSH.out])
        | (go_at_call 12; refine (choose_any lo hi taken_a taken_l taken_c taken wish D _ (by omega) hD (HS.out.on (by ((try simp only [World.junk_junk, Array.append_assoc]); (repeat (first | with_reducible exact Junk.refl _ | with_reducible exact Junk.app _ _ _ _ _ | with_reducible exact Junk.app2 _ _ _ _ _ _ | with_reducible exact Junk.app3 _ _ _ _ _ _ _ | with_reducible exact Junk.app4 _ _ _ _ _ _ _ _ | with_reducible exact Junk.app5 _ _ _ _ _ _ _ _ _ | with_reducible apply Junk.alloc | with_reducible apply Junk.junk | with_reducible apply Junk.drew | with_reducible apply Junk.drewN)))))).mono ?_; rintro e w' ⟨rfl, ⟨osj2, dj2, rfl⟩⟩; rw [HC.out])
        | (go_at_call 13; refine (rchoose_bad lo hi taken_a taken_l taken_c wish D _ HR.out).mono ?_; rintro e w' ⟨rfl, rfl⟩)
        | (go_at_call 14; refine (right_any lo hi _).mono ?_; rintro e w' ⟨rfl, rfl⟩; rw [HR.out])
        | (go_at_call 15; refine (rright_any lo hi _).mono ?_; rintro e w' ⟨rfl, rfl⟩; rw [HR.out])
        | (go_at_call 16; refine (poolFree_any lo hi taken_a taken_l taken_c taken _ (by omega) (HS.out.on (by ((try simp only [World.junk_junk, Array.append_assoc]); (repeat (first | with_reducible exact Junk.refl _ | with_reducible exact Junk.app _ _ _ _ _ | with_reducible exact Junk.app2 _ _ _ _ _ _ | with_reducible exact Junk.app3 _ _ _ _ _ _ _ | with_reducible exact Junk.app4 _ _ _ _ _ _ _ _ | with_reducible exact Junk.app5 _ _ _ _ _ _ _ _ _ | with_reducible apply Junk.alloc | with_reducible apply Junk.junk | with_reducible apply Junk.drew | with_reducible apply Junk.drewN)))))).mono ?_; rintro e w' ⟨rfl, ⟨osj3, dj3, rfl⟩⟩; rw [HF.out])
        | (go_at_call 17; refine (rlist_bad lo hi taken_a taken_l taken_c _ _ HR.out).mono ?_; rintro e w' ⟨rfl, rfl⟩))
      go_ret
      exact ⟨ret_bool rfl, by ((try simp only [World.junk_junk, Array.append_assoc]); (repeat (first | with_reducible exact Junk.refl _ | with_reducible exact Junk.app _ _ _ _ _ | with_reducible exact Junk.app2 _ _ _ _ _ _ | with_reducible exact Junk.app3 _ _ _ _ _ _ _ | with_reducible exact Junk.app4 _ _ _ _ _ _ _ _ | with_reducible exact Junk.app5 _ _ _ _ _ _ _ _ _ | with_reducible apply Junk.alloc | with_reducible apply Junk.junk | with_reducible apply Junk.drew | with_reducible apply Junk.drewN)))⟩
    | true =>
      have hr2 : 1 ≤ lo ∧ lo ≤ hi ∧ hi ≤ 65535 := by simpa [rightB] using hr
      obtain ⟨a, rfl⟩ : ∃ a : Nat, lo = (a : Int) := ⟨lo.toNat, by omega⟩
      obtain ⟨b, rfl⟩ : ∃ b : Nat, hi = (b : Int) := ⟨hi.toNat, by omega⟩
      have hs2 : taken_l ≤ 100 ∧ (b : Int) - a ≤ 300 := by simpa [short16, hr] using hsh
      have ht : taken_l ≤ 100 := hs2.1
      obtain ⟨N, hN⟩ : ∃ N, N = poolFree a b taken taken_l := ⟨_, rfl⟩
      have hN2 : (refL (takenB a b taken taken_l) b (-1) a).length = N := by rw [hN, refL_all]; unfold poolFree poolL; rw [if_pos hr]; simp
      obtain ⟨R1, hR1⟩ : ∃ R1, R1 = (poolChoose a b taken taken_l wish D).1 := ⟨_, rfl⟩
      obtain ⟨R2, hR2⟩ : ∃ R2, R2 = (poolChoose a b taken taken_l wish D).2 := ⟨_, rfl⟩
      have HC := Lib.hid (show poolChoose a b taken taken_l wish D = (R1, R2) from Prod.ext hR1.symm hR2.symm)
      have rl := fun w hw => rlist_any a b taken_a taken_l taken_c taken (-1) w hr (by omega) hw (by omega)
      rw [hN2] at rl
      have RL := Lib.hid rl
      have HN := Lib.hid hN
      have HR := Lib.hid hr
      have HSH := Lib.hid hsh
      clear hr hsh rl hN hN2 hR1 hR2 hs2
      go_enter Try.func3, Try.ntmps3
      go_wp2_with (first
        | (go_at_call 10; refine (awake16_any _).mono ?_; rintro e w' ⟨rfl, ⟨osj, dj, rfl⟩⟩)
        | (go_at_call 11; refine (short16_any a b taken_a taken_l taken_c _ b_lo b_hi).mono ?_; rintro e w' ⟨rfl, rfl⟩; rw [HSH.out])
        | (go_at_call 12; refine (choose_any a b taken_a taken_l taken_c taken wish D _ (by omega) hD (HS.out.on (by ((try simp only [World.junk_junk, Array.append_assoc]); (repeat (first | with_reducible exact Junk.refl _ | with_reducible exact Junk.app _ _ _ _ _ | with_reducible exact Junk.app2 _ _ _ _ _ _ | with_reducible exact Junk.app3 _ _ _ _ _ _ _ | with_reducible exact Junk.app4 _ _ _ _ _ _ _ _ | with_reducible exact Junk.app5 _ _ _ _ _ _ _ _ _ | with_reducible apply Junk.alloc | with_reducible apply Junk.junk | with_reducible apply Junk.drew | with_reducible apply Junk.drewN)))))).mono ?_; rintro e w' ⟨rfl, ⟨osj2, dj2, rfl⟩⟩; rw [HC.out])
        | (go_at_call 13; refine (rchoose_any a b taken_a taken_l taken_c taken wish D _ HR.out (by omega) hD (HS.out.on (by ((try simp only [World.junk_junk, Array.append_assoc]); (repeat (first | with_reducible exact Junk.refl _ | with_reducible exact Junk.app _ _ _ _ _ | with_reducible exact Junk.app2 _ _ _ _ _ _ | with_reducible exact Junk.app3 _ _ _ _ _ _ _ | with_reducible exact Junk.app4 _ _ _ _ _ _ _ _ | with_reducible exact Junk.app5 _ _ _ _ _ _ _ _ _ | with_reducible apply Junk.alloc | with_reducible apply Junk.junk | with_reducible apply Junk.drew | with_reducible apply Junk.drewN)))))).mono ?_; rintro e w' ⟨rfl, ⟨osj5, dj5, rfl⟩⟩; rw [HC.out])
        | (go_at_call 14; refine (right_any a b _).mono ?_; rintro e w' ⟨rfl, rfl⟩; rw [HR.out])
        | (go_at_call 15; refine (rright_any a b _).mono ?_; rintro e w' ⟨rfl, rfl⟩; rw [HR.out])
        | (go_at_call 16; refine (poolFree_any a b taken_a taken_l taken_c taken _ (by omega) (HS.out.on (by ((try simp only [World.junk_junk, Array.append_assoc]); (repeat (first | with_reducible exact Junk.refl _ | with_reducible exact Junk.app _ _ _ _ _ | with_reducible exact Junk.app2 _ _ _ _ _ _ | with_reducible exact Junk.app3 _ _ _ _ _ _ _ | with_reducible exact Junk.app4 _ _ _ _ _ _ _ _ | with_reducible exact Junk.app5 _ _ _ _ _ _ _ _ _ | with_reducible apply Junk.alloc | with_reducible apply Junk.junk | with_reducible apply Junk.drew | with_reducible apply Junk.drewN)))))).mono ?_; rintro e w' ⟨rfl, ⟨osj3, dj3, rfl⟩⟩; rw [← HN.out])
        | (go_at_call 17; refine (RL.out _ (HS.out.on (by ((try simp only [World.junk_junk, Array.append_assoc]); (repeat (first | with_reducible exact Junk.refl _ | with_reducible exact Junk.app _ _ _ _ _ | with_reducible exact Junk.app2 _ _ _ _ _ _ | with_reducible exact Junk.app3 _ _ _ _ _ _ _ | with_reducible exact Junk.app4 _ _ _ _ _ _ _ _ | with_reducible exact Junk.app5 _ _ _ _ _ _ _ _ _ | with_reducible apply Junk.alloc | with_reducible apply Junk.junk | with_reducible apply Junk.drew | with_reducible apply Junk.drewN)))))).mono ?_; rintro e w' ⟨ob2, cap2, rfl, ⟨os2, d2, rfl⟩, hown2⟩; clear hown2))
      go_ret
      exact ⟨ret_bool (by simp), by ((try simp only [World.junk_junk, Array.append_assoc]); (repeat (first | with_reducible exact Junk.refl _ | with_reducible exact Junk.app _ _ _ _ _ | with_reducible exact Junk.app2 _ _ _ _ _ _ | with_reducible exact Junk.app3 _ _ _ _ _ _ _ | with_reducible exact Junk.app4 _ _ _ _ _ _ _ _ | with_reducible exact Junk.app5 _ _ _ _ _ _ _ _ _ | with_reducible apply Junk.alloc | with_reducible apply Junk.junk | with_reducible apply Junk.drew | with_reducible apply Junk.drewN)))⟩
set_option maxRecDepth 100000 in
theorem poolRight_lifted (os : Os) (started : os.Started) (H : Type) (enc : TypeId × Value → H) :
    ReturnsInHanded {} Try.checked os 3 .any (Rows.poolRightSpec.pre6 enc Try.prog Try.f3 Rows.poolRightRow.domain false) (Rows.poolRightSpec.post enc Try.prog Try.f3 false true false false) := by
  refine returnsInHanded_of_change (C := Try.checked) (by kernel_rfl) started (by kernel_rfl) Try.func3
    (ChangeSpec.witness6 (enc := enc) (C := Try.checked) false ⟨#[], #[.int .i64 0, .int .i64 0, .slice none 0 0, .int .i64 0, .int .u32 0], []⟩ 8 (by kernel_rfl) (by kernel_rfl) (by kernel_rfl) (by kernel_rfl)) ?_
  intro W base args ds gs before hval hW _ _
  obtain ⟨p, q, hA, _, _, _, _⟩ := id hW
  have hargs : Args Try.prog W base Try.f3.params.toList args.toList := args_of (fun j t v h1 h2 => hval j t v (by simpa using h1) (by simpa using h2)) hA
  rw [Try.params3] at hargs
  obtain ⟨v0, l0, e0, a0, r0⟩ := args_cons hargs
  obtain ⟨v1, l1, e1, a1, r1⟩ := args_cons r0
  obtain ⟨v2, l2, e2, a2, r2⟩ := args_cons r1
  obtain ⟨v3, l3, e3, a3, r3⟩ := args_cons r2
  obtain ⟨v4, l4, e4, a4, r4⟩ := args_cons r3
  have hn := args_nil r4
  have he : args = #[v0, v1, v2, v3, v4] := by
    apply Array.ext'
    simp only [e0, e1, e2, e3, e4, hn]
  subst he
  exact (poolRight_core W base v0 v1 v2 v3 v4 a0 a1 a2 a3 a4).mono fun e W' ⟨he, hj⟩ => ⟨_, he, post_true (tb := 4) (by kernel_rfl) (by kernel_rfl) rfl (by kernel_rfl) rfl hW (fun hg hl => by
    subst hg
    match ds, hl with
    | [_, _, _, _, _], _ => exact ⟨rfl, rfl, rfl⟩) hj⟩
theorem poolRight_holds : Rows.PoolRightSaid :=
  OpenClaim.holds_of_wide 3 Try.f3 rfl rfl rfl rfl rfl rfl rfl ⟨rfl, rfl, rfl, rfl, rfl⟩ rfl rfl rfl rfl rfl (by kernel_rfl) Try.func3 (by kernel_rfl)
    (of_decide_eq_true (by kernel_rfl)) (by unfold Func.isWrapper; rw [if_neg (of_decide_eq_false (by kernel_rfl))]; exact ⟨rfl, rfl⟩)
    (fun os started H enc _ => poolRight_lifted os started H enc)

end Go.Proofs.Ytambpmbgfjefcaa
