/- The law ChalBudget: in one tick no more than Per challenges are spent; in each new one there are as many again. -/
import Derived.Test.YticijhpgapcecaaChalAwake
import Derived.Lib.Hide
set_option linter.unusedVariables false
set_option linter.unusedSimpArgs false
namespace Go.Proofs.Yticijhpgapcecaa
open Go.RowKit
/-- What holds at the head of each round. -/
def BudInv (per : Int) (k : Nat) (now spent left : Int) (f : Bool) : Prop :=
  0 ≤ now ∧ now ≤ 64 * k ∧ ((f = false ∧ now = 0 ∧ spent = 0 ∧ left = 0) ∨ (f = true ∧ 0 ≤ spent ∧ spent ≤ per ∧ left = per - spent))
theorem rightB_mk {p l a : Int} (h : 0 ≤ p ∧ p ≤ 1000 ∧ 0 ≤ l ∧ l ≤ p ∧ 0 ≤ a ∧ a ≤ 1099511627776) : rightB p l a = true := by simp [rightB, withinB]; omega
theorem spend_new {p l a n : Int} (h : 0 ≤ p ∧ p ≤ 1000 ∧ 0 ≤ l ∧ l ≤ p ∧ 0 ≤ a ∧ a < n ∧ n ≤ 1099511627776) : spendR p l a n = if p = 0 then ((p, p, n), false) else ((p, p - 1, n), true) := by
  have h1 := rightB_mk (p := p) (l := l) (a := a) (by omega)
  have h2 : withinB n a 1099511627776 = true := by simp [withinB]; omega
  unfold spendR
  rw [h1, h2]
  simp only [reduceCtorEq, or_self, if_false]
  rw [if_neg (by omega)]
theorem spend_old {p l a : Int} (h : 0 ≤ p ∧ p ≤ 1000 ∧ 0 ≤ l ∧ l ≤ p ∧ 0 ≤ a ∧ a ≤ 1099511627776) : spendR p l a a = if l = 0 then ((p, l, a), false) else ((p, l - 1, a), true) := by
  have h1 := rightB_mk (p := p) (l := l) (a := a) (by omega)
  have h2 : withinB a a 1099511627776 = true := by simp [withinB]; omega
  unfold spendR
  rw [h1, h2]
  simp only [reduceCtorEq, or_self, if_false, if_true]
set_option maxHeartbeats 4000000 in
set_option maxRecDepth 100000 in
theorem chalBudget_walk (per : Int) (la : Option Addr) (ll lc : Nat) (xs : Nat → Int) (w : World) (hp : 0 ≤ per ∧ per ≤ 255) (hl : ll ≤ 9223372036854775807) (hI : IntsAt w la ll .u8 xs) (hx : ∀ i, i < ll → 0 ≤ xs i ∧ xs i ≤ 255) :
    Calls Try.prog 3 #[.int .u8 per, .slice la ll lc] w fun e w' => e = .returned (.bool true) ∧ Junk w w' := by
  have Hx := Lib.hid hx
  clear hx
  go_enter Try.func3, Try.ntmps3
  go_wp2_with (go_at_call 14; refine (awake20_any _).mono ?_; rintro e w' ⟨rfl, ⟨os0, d0, rfl⟩⟩)
  go_loopw [6, 7, 8, 9] (fun nw sp fr i wr => ∃ (k : Nat) (now spent left : Int) (f : Bool), k ≤ ll ∧ nw = .int .i64 now ∧ sp = .int .i64 spent ∧ fr = .bool f ∧ i = .int .i64 k ∧ Junk ((w.junk os0 d0).alloc (.cells #[.int .i64 per, .int .i64 left, .int .i64 now] 25)) wr ∧ k ≤ 200 ∧ BudInv per k now spent left f) (fun _ _ _ i _ => ll - (intOf i).toNat)
  case atStart => exact ⟨0, 0, 0, 0, false, Nat.zero_le _, rfl, rfl, rfl, rfl, by (repeat (first | exact Junk.refl _ | apply Junk.alloc | apply Junk.junk | apply Junk.drew | apply Junk.drewN)), Nat.zero_le _, by omega, by omega, .inl ⟨rfl, rfl, rfl, rfl⟩⟩
  case round =>
    obtain ⟨k, now, spent, left, f, hk, rfl, rfl, rfl, rfl, ⟨os1, d1, rfl⟩, hk2, hinv⟩ := hrel
    have Hinv := Lib.hid hinv
    clear hinv
    by_cases hlt : k < ll
    · by_cases hlt2 : k < 200
      · have hxk := Hx.out k hlt
        obtain ⟨b, off, rfl, hblk, hc⟩ := hI k hlt
        clear hI
        generalize xs k = x at *
        obtain ⟨h1, h2, h3⟩ := Hinv.out
        by_cases h4 : x % 4 = 0
        · by_cases h5 : per = 0
          · subst h5
            have hl0 : left = 0 := by omega
            subst hl0
            have hs := spend_new (p := 0) (l := 0) (a := now) (n := now + (1 + x / 4)) (by omega)
            simp only [if_true] at hs
            have hr := rightB_mk (p := 0) (l := 0) (a := now + (1 + x / 4)) (by omega)
            clear h3
            go_wp2_with (first | (go_at_call 15; refine (spend_any _ _ _ _ _).mono ?_; rintro e w' ⟨rfl, ⟨osj, dj, rfl⟩⟩) | (go_at_call 16; refine (right_any _ _ _ _).mono ?_; rintro e w' ⟨rfl, ⟨osj, dj, rfl⟩⟩))
            refine ⟨⟨k + 1, now + (1 + x / 4), 0, 0, true, by omega, rfl, rfl, rfl, by go_num, by (repeat (first | exact Junk.refl _ | apply Junk.alloc | apply Junk.junk | apply Junk.drew | apply Junk.drewN)), by omega, by omega, by omega, .inr ⟨rfl, by omega, by omega, by omega⟩⟩, by simp [intOf]; omega⟩
          · have hs := spend_new (p := per) (l := left) (a := now) (n := now + (1 + x / 4)) (by omega)
            rw [if_neg h5] at hs
            have hr := rightB_mk (p := per) (l := per - 1) (a := now + (1 + x / 4)) (by omega)
            clear h3
            go_wp2_with (first | (go_at_call 15; refine (spend_any _ _ _ _ _).mono ?_; rintro e w' ⟨rfl, ⟨osj, dj, rfl⟩⟩) | (go_at_call 16; refine (right_any _ _ _ _).mono ?_; rintro e w' ⟨rfl, ⟨osj, dj, rfl⟩⟩))
            refine ⟨⟨k + 1, now + (1 + x / 4), 1, per - 1, true, by omega, rfl, rfl, rfl, by go_num, by (repeat (first | exact Junk.refl _ | apply Junk.alloc | apply Junk.junk | apply Junk.drew | apply Junk.drewN)), by omega, by omega, by omega, .inr ⟨rfl, by omega, by omega, by omega⟩⟩, by simp [intOf]; omega⟩
        · rcases h3 with ⟨rfl, rfl, rfl, rfl⟩ | ⟨rfl, h6, h7, h8⟩
          · have hs := spend_old (p := per) (l := 0) (a := 0) (by omega)
            simp only [if_true] at hs
            have hr := rightB_mk (p := per) (l := 0) (a := 0) (by omega)
            go_wp2_with (first | (go_at_call 15; refine (spend_any _ _ _ _ _).mono ?_; rintro e w' ⟨rfl, ⟨osj, dj, rfl⟩⟩) | (go_at_call 16; refine (right_any _ _ _ _).mono ?_; rintro e w' ⟨rfl, ⟨osj, dj, rfl⟩⟩))
            refine ⟨⟨k + 1, 0, 0, 0, false, by omega, rfl, rfl, rfl, by go_num, by (repeat (first | exact Junk.refl _ | apply Junk.alloc | apply Junk.junk | apply Junk.drew | apply Junk.drewN)), by omega, by omega, by omega, .inl ⟨rfl, rfl, rfl, rfl⟩⟩, by simp [intOf]; omega⟩
          · have hs := spend_old (p := per) (l := left) (a := now) (by omega)
            by_cases h9 : left = 0
            · rw [if_pos h9] at hs
              subst h9
              obtain rfl : spent = per := by omega
              have hr := rightB_mk (p := spent) (l := 0) (a := now) (by omega)
              clear h8
              go_wp2_with (first | (go_at_call 15; refine (spend_any _ _ _ _ _).mono ?_; rintro e w' ⟨rfl, ⟨osj, dj, rfl⟩⟩) | (go_at_call 16; refine (right_any _ _ _ _).mono ?_; rintro e w' ⟨rfl, ⟨osj, dj, rfl⟩⟩))
              refine ⟨⟨k + 1, now, spent, 0, true, by omega, rfl, rfl, rfl, by go_num, by (repeat (first | exact Junk.refl _ | apply Junk.alloc | apply Junk.junk | apply Junk.drew | apply Junk.drewN)), by omega, by omega, by omega, .inr ⟨rfl, by omega, by omega, by omega⟩⟩, by simp [intOf]; omega⟩
            · rw [if_neg h9] at hs
              have hr := rightB_mk (p := per) (l := left - 1) (a := now) (by omega)
              have h10 : (left - 1 != per - (spent + 1)) = false := bne_eq_false_iff_eq.2 (by omega)
              have h11 : spent + 1 ≤ per := by omega
              have H8 := Lib.hid h8
              clear h8
              go_wp2_with (first | (go_at_call 15; refine (spend_any _ _ _ _ _).mono ?_; rintro e w' ⟨rfl, ⟨osj, dj, rfl⟩⟩) | (go_at_call 16; refine (right_any _ _ _ _).mono ?_; rintro e w' ⟨rfl, ⟨osj, dj, rfl⟩⟩))
              refine ⟨⟨k + 1, now, spent + 1, left - 1, true, by omega, rfl, rfl, rfl, by go_num, by (repeat (first | exact Junk.refl _ | apply Junk.alloc | apply Junk.junk | apply Junk.drew | apply Junk.drewN)), by omega, by omega, by omega, .inr ⟨rfl, by omega, by omega, by have := H8.out; omega⟩⟩, by simp [intOf]; omega⟩
      · go_wp2
        go_ret
        exact ⟨ret_bool rfl, by (repeat (first | exact Junk.refl _ | apply Junk.alloc | apply Junk.junk | apply Junk.drew | apply Junk.drewN))⟩
    · go_wp2
      go_ret
      exact ⟨ret_bool rfl, by (repeat (first | exact Junk.refl _ | apply Junk.alloc | apply Junk.junk | apply Junk.drew | apply Junk.drewN))⟩

theorem chalBudget_core (W : World) (base : Nat) (v0 v1 : Value) (a0 : Arg Try.prog W base 5 v0) (a1 : Arg Try.prog W base 22 v1) :
    Calls Try.prog 3 #[v0, v1] W fun e W' => e = .returned (.bool true) ∧ Junk W W' := by
  obtain ⟨per, rfl, w_per⟩ := a0.int Try.underlying5
  have f_l := a1.slice Try.underlying22
  obtain ⟨l_a, l_l, l_c, l, e_l, lc_l, cm_l, S_l, w_l⟩ := f_l.ints Try.underlying22 Try.underlying5 (by kernel_rfl); cases e_l
  have hlm : maxLen = 9223372036854775807 := rfl
  exact chalBudget_walk per l_a l_l l_c l W (bounds_u8 w_per) (by omega) S_l (fun i hi => bounds_u8 (w_l i hi))
set_option maxRecDepth 100000 in
theorem chalBudget_lifted (os : Os) (started : os.Started) (H : Type) (enc : TypeId × Value → H) :
    ReturnsInHanded {} Try.checked os 3 .any (Rows.chalBudgetSpec.pre6 enc Try.prog Try.f3 Rows.chalBudgetRow.domain false) (Rows.chalBudgetSpec.post enc Try.prog Try.f3 false true false false) := by
  refine returnsInHanded_of_change (C := Try.checked) (by kernel_rfl) started (by kernel_rfl) Try.func3
    (ChangeSpec.witness6 (enc := enc) (C := Try.checked) false ⟨#[], #[.int .u8 0, .slice none 0 0], []⟩ 8 (by kernel_rfl) (by kernel_rfl) (by kernel_rfl) (by kernel_rfl)) ?_
  intro W base args ds gs before hval hW _ _
  obtain ⟨p, q, hA, _, _, _, _⟩ := id hW
  have hargs : Args Try.prog W base Try.f3.params.toList args.toList := args_of (fun j t v h1 h2 => hval j t v (by simpa using h1) (by simpa using h2)) hA
  rw [Try.params3] at hargs
  obtain ⟨v0, l0, e0, a0, r0⟩ := args_cons hargs
  obtain ⟨v1, l1, e1, a1, r1⟩ := args_cons r0
  have hn := args_nil r1
  have he : args = #[v0, v1] := by
    apply Array.ext'
    simp only [e0, e1, hn]
  subst he
  exact (chalBudget_core W base v0 v1 a0 a1).mono fun e W' ⟨he, hj⟩ => ⟨_, he, post_true (tb := 4) (by kernel_rfl) (by kernel_rfl) rfl (by kernel_rfl) rfl hW (fun hg hl => by
    subst hg
    match ds, hl with
    | [_, _], _ => exact ⟨rfl, rfl, rfl⟩) hj⟩
theorem chalBudget_holds : Rows.ChalBudgetSaid :=
  OpenClaim.holds_of_wide 3 Try.f3 rfl rfl rfl rfl rfl rfl rfl ⟨rfl, rfl, rfl, rfl, rfl⟩ rfl rfl rfl rfl rfl (by kernel_rfl) Try.func3 (by kernel_rfl)
    (of_decide_eq_true (by kernel_rfl)) (by unfold Func.isWrapper; rw [if_neg (of_decide_eq_false (by kernel_rfl))]; exact ⟨rfl, rfl⟩)
    (fun os started H enc _ => chalBudget_lifted os started H enc)

end Go.Proofs.Yticijhpgapcecaa
