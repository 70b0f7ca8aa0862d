/- The law TopExpires: a flow is there till its Until, and not a tick longer. -/
import Derived.Test.YtfhkhnoiolkkdaaGreatDoorHaF
import Derived.Test.YtfhkhnoiolkkdaaGreatDoorGzJ
import Derived.Test.YtfhkhnoiolkkdaaGreatDoorTie
import Derived.Test.YtfhkhnoiolkkdaaGreatDoorCards
import Derived.SevenTiedAt
import Derived.LaidMore
import Derived.Stop.Joined
import Derived.Stop.LaidErr
set_option linter.unusedVariables false
set_option maxRecDepth 100000
set_option linter.unusedSimpArgs false
namespace Go.Proofs.YtfhkhnoiolkkdaaGreatDoor
open Go.RowKit Go.ChangeShapes Go.WideShapes Go.ChangeAt Go.WideMaps Go.WideElems
theorem topExpires_core (W : World) (base : Nat) (v0 v1 v2 : Value) (a0 : Arg Tryz.prog W base 22 v0) (a1 : Arg Tryz.prog W base 22 v1) (a2 : Arg Tryz.prog W base 5 v2) (hL : laidMetH Tryz.prog Rows.topExpiresRow.laid W) :
    Calls Tryz.prog 3 #[v0, v1, v2] W fun e W' => e = .returned (.bool true) ∧ Junk W W' := by
  obtain ⟨from_, rfl, w_from_⟩ := a0.int Tryz.underlying22
  obtain ⟨tt, rfl, w_tt⟩ := a1.int Tryz.underlying22
  obtain ⟨wait, rfl, w_wait⟩ := a2.int Tryz.underlying5
  by_cases hw : wait < 100
  · exact texp_a from_ tt wait (bounds_u16 w_from_) (bounds_u16 w_tt) ⟨(bounds_u8 w_wait).1, hw⟩ W
  · exact texp_b from_ tt wait (bounds_u16 w_from_) (bounds_u16 w_tt) ⟨by omega, (bounds_u8 w_wait).2⟩ W
theorem topExpires_door (os : Os) (args : Array Value) : laidMetH Tryz.prog Rows.topExpiresRow.laid ((World.doorLaid Tryz.prog 19 os).forCall (fun _ _ => 0) ⟨#[], args, []⟩).memory :=
  laidMetH_of_parts3 (fuel := 8) (laidMet_of_run' 8 (by kernel_rfl) (by kernel_rfl)) (by kernel_rfl) (by kernel_rfl)
set_option maxRecDepth 100000 in
theorem topExpires_lifted (os : Os) (started : os.Started) (H : Type) (enc : TypeId × Value → H) :
    ReturnsInHanded {} Tryz.checked os 3 .any (fun w args => (Rows.topExpiresSpec.pre enc Tryz.prog Tryz.f3 [] false w args ∧ laidMetH Tryz.prog Rows.topExpiresRow.laid w) ∧ sizedMet enc Tryz.prog Tryz.f3 (OpenSpec.ofChange Rows.topExpiresSpec) false w args)
      (Rows.topExpiresSpec.post enc Tryz.prog Tryz.f3 false true false false) := by
  refine returnsInHanded_of_change_and (C := Tryz.checked) (X := fun w _ => laidMetH Tryz.prog Rows.topExpiresRow.laid w) (fun _ _ _ hh h => h.of_heap hh) (by kernel_rfl) started (by kernel_rfl) Tryz.func3
    (ChangeSpec.witness_shaped (enc := enc) (C := Tryz.checked) (os := os) (X := fun w _ => laidMetH Tryz.prog Rows.topExpiresRow.laid w) false (World.doorLaid Tryz.prog 19 os) #[.int .u16 0, .int .u16 0, .int .u8 0] 8 rfl (World.shaped_of_RefB (by kernel_rfl) (by kernel_rfl)) (by kernel_rfl) (by kernel_rfl) (by kernel_rfl) (topExpires_door os _)) ?_
  intro W base args ds gs before hval hW _ _ hL _
  obtain ⟨p, q, hA, _, _, _, _⟩ := id hW
  have hargs : Args Tryz.prog W base Tryz.f3.params.toList args.toList := args_of (fun j t v h1 h2 => hval j t v (by simpa using h1) (by simpa using h2)) hA
  rw [Tryz.params3] at hargs
  obtain ⟨v0, l0, e0, a0, r0⟩ := args_cons hargs
  obtain ⟨v1, l1, e1, a1, r1⟩ := args_cons r0
  obtain ⟨v2, l2, e2, a2, r2⟩ := args_cons r1
  have hn := args_nil r2
  have he : args = #[v0, v1, v2] := by
    apply Array.ext'
    simp only [e0, e1, e2, hn]
  subst he
  exact (topExpires_core W base v0 v1 v2 a0 a1 a2 hL).mono fun e W' ⟨he, hj⟩ => ⟨_, he, post_true (tb := 4) (by kernel_rfl) (by kernel_rfl) rfl (by kernel_rfl) rfl hW (fun hg hl => by
    subst hg
    match ds, hl with
    | [_, _, _], _ => exact ⟨rfl, rfl, rfl⟩) hj⟩
theorem topExpires_said : Rows.TopExpiresSaid :=
  OpenClaim.holds_of_wide 3 Tryz.f3 rfl rfl rfl rfl rfl rfl rfl ⟨rfl, rfl, rfl, rfl, rfl⟩ rfl rfl rfl rfl rfl (by kernel_rfl) Tryz.func3 topExpires_joined
    (of_decide_eq_true (by kernel_rfl)) (by unfold Func.isWrapper; first | (rw [if_pos (by decide +kernel)]; kernel_rfl) | (rw [if_neg (by decide +kernel)]; exact ⟨rfl, rfl⟩))
    (fun os started H enc _ => topExpires_lifted os started H enc)
theorem topExpires_holds : Rows.TopExpiresCardSaid :=
  Claim7.holds_tied_plain_at .later [] [.data, .data] true (true, "9c790a7a86a3af1db9a3b7ceb1329d90c988cd99defa577d3b6376a74a1a8017") true
    topExpires_said (fun _ h => by cases h) (by kernel_rfl) (fun _ h => by cases h) topExpires_row_tie rfl ⟨rfl, rfl⟩ (by kernel_rfl) rfl
    (fun f fn hf hfn => by
      obtain rfl : f = 3 := Option.some.inj ((show Tryz.prog.funcNamed Rows.topExpiresRow.func = some 3 by kernel_rfl).symm.trans hf) |>.symm
      obtain rfl : fn = Tryz.f3 := (Option.some.inj (Tryz.func3.symm.trans hfn)).symm
      exact ⟨by kernel_rfl, fun j t ht => by
        rw [Tryz.params3] at ht
        rcases j with _ | _ | _ | j
        · obtain rfl : t = 22 := by simpa using ht.symm
          exact (show Tryz.prog.wantsStandIn 22 = false by kernel_rfl)
        · obtain rfl : t = 22 := by simpa using ht.symm
          exact (show Tryz.prog.wantsStandIn 22 = false by kernel_rfl)
        · obtain rfl : t = 5 := by simpa using ht.symm
          exact (show Tryz.prog.wantsStandIn 5 = false by kernel_rfl)
        · simp at ht⟩)
    (by kernel_rfl)

end Go.Proofs.YtfhkhnoiolkkdaaGreatDoor
