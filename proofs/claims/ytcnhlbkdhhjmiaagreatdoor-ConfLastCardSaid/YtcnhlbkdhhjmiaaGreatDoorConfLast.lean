/- The law ConfLast: of lines that say the same thing the last one counts; remarks and blanks change nothing. For every configuration, every budget. -/
import Derived.Test.YtcnhlbkdhhjmiaaGreatDoorCgL
import Derived.Test.YtcnhlbkdhhjmiaaGreatDoorTie
import Derived.Test.YtcnhlbkdhhjmiaaGreatDoorCards
import Derived.SevenTiedAt
import Derived.Stop.Joined
import Derived.Lay
set_option linter.unusedVariables false
set_option maxRecDepth 100000
set_option linter.unusedSimpArgs false
namespace Go.Proofs.YtcnhlbkdhhjmiaaGreatDoor
open Go.RowKit Go.ChangeShapes Go.WideShapes Go.ChangeAt Go.WideMaps Go.WideElems
theorem confLast_core (W : World) (base : Nat) (v0 v1 : Value) (a0 : Arg Tryz.prog W base 27 v0) (a1 : Arg Tryz.prog W base 5 v1) (hE : Env W) :
    Calls Tryz.prog 4 #[v0, v1] W fun e W' => e = .returned (.bool true) ∧ Junk W W' := by
  obtain ⟨cs_c, rfl, h_c⟩ := a0.struct Tryz.underlying27
  obtain ⟨hl_c, hf_c⟩ := h_c.fields1 Tryz.underlying27 (by kernel_rfl) (n := 10) (by kernel_rfl)
  obtain ⟨c_Routes, lc0, e_c0⟩ : ∃ x l, cs_c = x :: l := by cases cs_c with | nil => simp at hl_c | cons x l => exact ⟨x, l, rfl⟩
  subst e_c0
  obtain ⟨c_Rules, lc1, e_c1⟩ : ∃ x l, lc0 = x :: l := by cases lc0 with | nil => simp at hl_c | cons x l => exact ⟨x, l, rfl⟩
  subst e_c1
  obtain ⟨c_Outside, lc2, e_c2⟩ : ∃ x l, lc1 = x :: l := by cases lc1 with | nil => simp at hl_c | cons x l => exact ⟨x, l, rfl⟩
  subst e_c2
  obtain ⟨c_Public, lc3, e_c3⟩ : ∃ x l, lc2 = x :: l := by cases lc2 with | nil => simp at hl_c | cons x l => exact ⟨x, l, rfl⟩
  subst e_c3
  obtain ⟨c_Lo, lc4, e_c4⟩ : ∃ x l, lc3 = x :: l := by cases lc3 with | nil => simp at hl_c | cons x l => exact ⟨x, l, rfl⟩
  subst e_c4
  obtain ⟨c_Hi, lc5, e_c5⟩ : ∃ x l, lc4 = x :: l := by cases lc4 with | nil => simp at hl_c | cons x l => exact ⟨x, l, rfl⟩
  subst e_c5
  obtain ⟨c_Forwards, lc6, e_c6⟩ : ∃ x l, lc5 = x :: l := by cases lc5 with | nil => simp at hl_c | cons x l => exact ⟨x, l, rfl⟩
  subst e_c6
  obtain ⟨c_Tcp, lc7, e_c7⟩ : ∃ x l, lc6 = x :: l := by cases lc6 with | nil => simp at hl_c | cons x l => exact ⟨x, l, rfl⟩
  subst e_c7
  obtain ⟨c_Other, lc8, e_c8⟩ : ∃ x l, lc7 = x :: l := by cases lc7 with | nil => simp at hl_c | cons x l => exact ⟨x, l, rfl⟩
  subst e_c8
  obtain ⟨c_Budget, lc9, e_c9⟩ : ∃ x l, lc8 = x :: l := by cases lc8 with | nil => simp at hl_c | cons x l => exact ⟨x, l, rfl⟩
  subst e_c9
  obtain rfl : lc9 = [] := by simpa using hl_c
  have f_c0 : Cells Tryz.prog W 22 [c_Routes] := hf_c 0 _ rfl
  have f_c1 : Cells Tryz.prog W 23 [c_Rules] := hf_c 1 _ rfl
  have f_c2 : Cells Tryz.prog W 3 [c_Outside] := hf_c 2 _ rfl
  have f_c3 : Cells Tryz.prog W 24 [c_Public] := hf_c 3 _ rfl
  have f_c4 : Cells Tryz.prog W 3 [c_Lo] := hf_c 4 _ rfl
  have f_c5 : Cells Tryz.prog W 3 [c_Hi] := hf_c 5 _ rfl
  have f_c6 : Cells Tryz.prog W 25 [c_Forwards] := hf_c 6 _ rfl
  have f_c7 : Cells Tryz.prog W 3 [c_Tcp] := hf_c 7 _ rfl
  have f_c8 : Cells Tryz.prog W 3 [c_Other] := hf_c 8 _ rfl
  have f_c9 : Cells Tryz.prog W 3 [c_Budget] := hf_c 9 _ rfl
  clear hf_c hl_c
  obtain ⟨c_Routes_a, c_Routes_l, c_Routes_c, c_Routes, e_c_Routes, lc_c_Routes, cm_c_Routes, S_c_Routes, r_c_Routes⟩ := f_c0.slice Tryz.underlying22 (Nat.lt_of_lt_of_eq (by decide : 0 < 4) (by kernel_rfl)); cases e_c_Routes
  obtain ⟨c_Rules_a, c_Rules_l, c_Rules_c, c_Rules, e_c_Rules, lc_c_Rules, cm_c_Rules, S_c_Rules, r_c_Rules⟩ := f_c1.slice Tryz.underlying23 (Nat.lt_of_lt_of_eq (by decide : 0 < 10) (by kernel_rfl)); cases e_c_Rules
  obtain ⟨c_Outside, e_c_Outside, w_c_Outside⟩ := f_c2.int Tryz.underlying3; cases e_c_Outside
  obtain ⟨c_Public, e_c_Public, w_c_Public⟩ := f_c3.int Tryz.underlying24; cases e_c_Public
  obtain ⟨c_Lo, e_c_Lo, w_c_Lo⟩ := f_c4.int Tryz.underlying3; cases e_c_Lo
  obtain ⟨c_Hi, e_c_Hi, w_c_Hi⟩ := f_c5.int Tryz.underlying3; cases e_c_Hi
  obtain ⟨c_Forwards_a, c_Forwards_l, c_Forwards_c, c_Forwards, e_c_Forwards, lc_c_Forwards, cm_c_Forwards, S_c_Forwards, r_c_Forwards⟩ := f_c6.slice Tryz.underlying25 (Nat.lt_of_lt_of_eq (by decide : 0 < 5) (by kernel_rfl)); cases e_c_Forwards
  obtain ⟨c_Tcp, e_c_Tcp, w_c_Tcp⟩ := f_c7.int Tryz.underlying3; cases e_c_Tcp
  obtain ⟨c_Other, e_c_Other, w_c_Other⟩ := f_c8.int Tryz.underlying3; cases e_c_Other
  obtain ⟨c_Budget, e_c_Budget, w_c_Budget⟩ := f_c9.int Tryz.underlying3; cases e_c_Budget
  obtain ⟨budget, rfl, w_budget⟩ := a1.int Tryz.underlying5
  obtain ⟨X, hX, hSX, htX⟩ := ro_args S_c_Routes r_c_Routes
  obtain ⟨Y, hY, hSY, htY⟩ := ru_args S_c_Rules r_c_Rules
  obtain ⟨Z, hZ, hSZ, htZ⟩ := fo_args S_c_Forwards r_c_Forwards
  have bpu := bounds_u32 w_c_Public
  obtain ⟨pu, hpu⟩ : ∃ n : Nat, c_Public = (n : Int) := ⟨c_Public.toNat, by omega⟩
  subst hpu
  have bb := bounds_u8 w_budget
  obtain ⟨bn, hbn⟩ : ∃ n : Nat, budget = (n : Int) := ⟨budget.toNat, by omega⟩
  subst hbn
  exact confLast_walk X Y Z c_Routes_a c_Routes_l c_Routes_c c_Rules_a c_Rules_l c_Rules_c c_Outside pu c_Lo c_Hi c_Forwards_a c_Forwards_l c_Forwards_c c_Tcp c_Other c_Budget bn W hX hY hZ hSX hSY hSZ lc_c_Routes lc_c_Rules lc_c_Forwards hE ⟨htX, htY, by simp only; omega, htZ⟩ (by omega)
set_option maxRecDepth 100000 in
theorem confLast_lifted (os : Os) (started : os.Started) (H : Type) (enc : TypeId × Value → H) :
    ReturnsInHanded {} Tryz.checked os 4 .any (fun w args => (Rows.confLastSpec.pre enc Tryz.prog Tryz.f4 [] false w args ∧ laidMetH Tryz.prog Rows.confLastRow.laid w) ∧ sizedMet enc Tryz.prog Tryz.f4 (OpenSpec.ofChange Rows.confLastSpec) false w args)
      (Rows.confLastSpec.post enc Tryz.prog Tryz.f4 false true false false) := by
  refine handed_and_shaped (C := Tryz.checked) (X := fun w _ => laidMetH Tryz.prog Rows.confLastRow.laid w) (fun _ _ _ hh h => h.of_heap hh) (by kernel_rfl) started (by kernel_rfl) Tryz.func4
    (ChangeSpec.witness_shaped (enc := enc) (C := Tryz.checked) (os := os) (X := fun w _ => laidMetH Tryz.prog Rows.confLastRow.laid w) false (World.laidAll Tryz.prog os Rows.confLastRow.laid) #[.agg #[.slice none 0 0, .slice none 0 0, .int .i64 0, .int .u32 0, .int .i64 0, .int .i64 0, .slice none 0 0, .int .i64 0, .int .i64 0, .int .i64 0], .int .u8 0] 8 (World.laidAll_os _ _ _) (World.shaped_of_ZipB (by kernel_rfl) (by kernel_rfl)) (by kernel_rfl) (by kernel_rfl) (by kernel_rfl) (by rw [MakeChecks.laidMetH_plain _ _ _ (by kernel_rfl)]; exact laidMet_laidAll _ (by kernel_rfl) (by kernel_rfl))) ?_
  intro W base args ds gs before hval hW _ hL hsh
  obtain ⟨p, q, hA, _, _, _, _⟩ := id hW
  have hargs : Args Tryz.prog W base Tryz.f4.params.toList args.toList := args_of (fun j t v h1 h2 => hval j t v (by simpa using h1) (by simpa using h2)) hA
  rw [Tryz.params4] at hargs
  obtain ⟨v0, l0, e0, a0, r0⟩ := args_cons hargs
  obtain ⟨v1, l1, e1, a1, r1⟩ := args_cons r0
  have hn := args_nil r1
  have he : args = #[v0, v1] := by
    apply Array.ext'
    simp only [e0, e1, hn]
  subst he
  exact (confLast_core W base v0 v1 a0 a1 (env_of hL (Tryz.laysM146.s1_3 W hsh))).mono fun e W' ⟨he, hj⟩ => ⟨_, he, post_true (tb := 4) (by kernel_rfl) (by kernel_rfl) rfl (by kernel_rfl) rfl hW (fun hg hl => by
    subst hg
    match ds, hl with
    | [_, _], _ => exact ⟨rfl, rfl, rfl⟩) hj⟩
theorem confLast_said : Rows.ConfLastSaid :=
  OpenClaim.holds_of_wide 4 Tryz.f4 rfl rfl rfl rfl rfl rfl rfl ⟨rfl, rfl, rfl, rfl, rfl⟩ rfl rfl rfl rfl rfl (by kernel_rfl) Tryz.func4 (by kernel_rfl)
    (of_decide_eq_true (by kernel_rfl)) (by unfold Func.isWrapper; first | (rw [if_pos (by decide +kernel)]; kernel_rfl) | (rw [if_neg (by decide +kernel)]; exact ⟨rfl, rfl⟩))
    (fun os started H enc _ => confLast_lifted os started H enc)
theorem confLast_holds : Rows.ConfLastCardSaid :=
  Claim7.holds_tied_plain_at .later [] [.data, .data, .data, .data, .sentinel, .sentinel, .pinned] true (true, "ceaea8cebc48a389910bf3eaefec90c379d2789c89f35195c8a8aa1b5dabfe6d") true
    confLast_said (fun _ h => by cases h) (by kernel_rfl) (fun _ h => by cases h) confLast_row_tie rfl ⟨rfl, rfl⟩ (by kernel_rfl) rfl
    (fun f fn hf hfn => by
      obtain rfl : f = 4 := Option.some.inj ((show Tryz.prog.funcNamed Rows.confLastRow.func = some 4 by kernel_rfl).symm.trans hf) |>.symm
      obtain rfl : fn = Tryz.f4 := (Option.some.inj (Tryz.func4.symm.trans hfn)).symm
      exact ⟨by kernel_rfl, fun j t ht => by
        rw [Tryz.params4] at ht
        rcases j with _ | _ | j
        · obtain rfl : t = 27 := by simpa using ht.symm
          exact (show Tryz.prog.wantsStandIn 27 = false by kernel_rfl)
        · obtain rfl : t = 5 := by simpa using ht.symm
          exact (show Tryz.prog.wantsStandIn 5 = false by kernel_rfl)
        · simp at ht⟩)
    (by kernel_rfl)

end Go.Proofs.YtcnhlbkdhhjmiaaGreatDoor
