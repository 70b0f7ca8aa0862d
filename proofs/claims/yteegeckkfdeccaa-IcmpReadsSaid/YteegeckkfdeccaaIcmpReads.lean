/- The law IcmpReads: any bytes are the document's message, or have its first error. -/
import Derived.Test.YteegeckkfdeccaaIcmpAwake
import Derived.Test.YteegeckkfdeccaaIcmpRParse
import Derived.Test.YteegeckkfdeccaaLift2
set_option linter.unusedVariables false
set_option linter.unusedSimpArgs false
namespace Go.Proofs.Yteegeckkfdeccaa
open Go.RowKit
theorem msame_refl (t c r : Int) (xs : Nat → Int) (l : Nat) : msame t c r t c r xs xs l l = true := by simp [msame, sameN]
set_option maxHeartbeats 1000000 in
theorem icmpReads_walk (oa : Option Addr) (l c n : Nat) (xs : Nat → Int) (w : World) (hB : Bts w oa l c xs) (hmin : (min (l : Int) 3000).toNat = n) (hn : n ≤ l) (hn3 : n ≤ 3000) :
    Calls Try.prog 3 #[.slice oa l c] w fun e w' => e = .returned (.bool true) ∧ Junk w w' := by
  have hB2 : Bts w oa n c xs := ⟨fun i hi => hB.at_ i (by omega), fun i hi => hB.byte i (by omega), fun h => by have := hB.nil h; omega, by have := hB.le; omega, hB.cap⟩
  have HB := Lib.hid hB2
  have hlc := hB.le
  have hcm : c ≤ 9223372036854775807 := hB.cap
  clear hB hB2
  have hr := fun t c r xs l => msame_refl t c r xs l
  by_cases h0 : pErr xs n = 0
  · go_enter Try.func3, Try.ntmps3
    go_wp2_with (first
      | (go_at_call 15; refine (awake06_any _).mono ?_; rintro e w' ⟨rfl, ⟨osj, dj, rfl⟩⟩)
      | (go_at_call 16; refine (parse_any oa n c xs _ (by omega) (HB.out.on (by ((try simp only [World.junk_junk, Array.append_assoc]); (repeat (first | with_reducible exact Junk.refl _ | with_reducible exact Junk.app _ _ _ _ _ | with_reducible exact Junk.app2 _ _ _ _ _ _ | with_reducible exact Junk.app3 _ _ _ _ _ _ _ | with_reducible exact Junk.app4 _ _ _ _ _ _ _ _ | with_reducible exact Junk.app5 _ _ _ _ _ _ _ _ _ | apply Junk.alloc | apply Junk.junk | apply Junk.drew | apply Junk.drewN)))))).mono ?_; intro e w' hp; obtain ⟨ob2, cb2, rfl, ⟨osj2, dj2, rfl⟩, hb⟩ := hp.ok h0; clear hp; have Hb2 := Lib.hid hb; clear hb)
      | (go_at_call 17; refine (rparse_any oa n c xs _ (by omega) (HB.out.on (by ((try simp only [World.junk_junk, Array.append_assoc]); (repeat (first | with_reducible exact Junk.refl _ | with_reducible exact Junk.app _ _ _ _ _ | with_reducible exact Junk.app2 _ _ _ _ _ _ | with_reducible exact Junk.app3 _ _ _ _ _ _ _ | with_reducible exact Junk.app4 _ _ _ _ _ _ _ _ | with_reducible exact Junk.app5 _ _ _ _ _ _ _ _ _ | apply Junk.alloc | apply Junk.junk | apply Junk.drew | apply Junk.drewN)))))).mono ?_; intro e w' hp; obtain ⟨ob3, cb3, rfl, ⟨osj3, dj3, rfl⟩, hb⟩ := hp.ok h0; clear hp; have Hb3 := Lib.hid hb; clear hb)
      | (go_at_call 18; refine (rmsame_any (xs 0) (xs 1) (pRest xs) (xs 0) (xs 1) (pRest xs) ob2 ob3 (n - 8) cb2 (n - 8) cb3 (fun i => xs (8 + i)) (fun i => xs (8 + i)) _ (by omega) (by omega) (Hb2.out.on (by ((try simp only [World.junk_junk, Array.append_assoc]); (repeat (first | with_reducible exact Junk.refl _ | with_reducible exact Junk.app _ _ _ _ _ | with_reducible exact Junk.app2 _ _ _ _ _ _ | with_reducible exact Junk.app3 _ _ _ _ _ _ _ | with_reducible exact Junk.app4 _ _ _ _ _ _ _ _ | with_reducible exact Junk.app5 _ _ _ _ _ _ _ _ _ | apply Junk.alloc | apply Junk.junk | apply Junk.drew | apply Junk.drewN))))) (Hb3.out.on (by ((try simp only [World.junk_junk, Array.append_assoc]); (repeat (first | with_reducible exact Junk.refl _ | with_reducible exact Junk.app _ _ _ _ _ | with_reducible exact Junk.app2 _ _ _ _ _ _ | with_reducible exact Junk.app3 _ _ _ _ _ _ _ | with_reducible exact Junk.app4 _ _ _ _ _ _ _ _ | with_reducible exact Junk.app5 _ _ _ _ _ _ _ _ _ | apply Junk.alloc | apply Junk.junk | apply Junk.drew | apply Junk.drewN)))))).mono ?_; rintro e w' ⟨rfl, ⟨osj, dj, rfl⟩⟩))
    go_ret
    exact ⟨ret_bool rfl, by ((try simp only [World.junk_junk, Array.append_assoc]); (repeat (first | with_reducible exact Junk.refl _ | with_reducible exact Junk.app _ _ _ _ _ | with_reducible exact Junk.app2 _ _ _ _ _ _ | with_reducible exact Junk.app3 _ _ _ _ _ _ _ | with_reducible exact Junk.app4 _ _ _ _ _ _ _ _ | with_reducible exact Junk.app5 _ _ _ _ _ _ _ _ _ | apply Junk.alloc | apply Junk.junk | apply Junk.drew | apply Junk.drewN)))⟩
  · go_enter Try.func3, Try.ntmps3
    go_wp2_with (first
      | (go_at_call 15; refine (awake06_any _).mono ?_; rintro e w' ⟨rfl, ⟨osj, dj, rfl⟩⟩)
      | (go_at_call 16; refine (parse_any oa n c xs _ (by omega) (HB.out.on (by ((try simp only [World.junk_junk, Array.append_assoc]); (repeat (first | with_reducible exact Junk.refl _ | with_reducible exact Junk.app _ _ _ _ _ | with_reducible exact Junk.app2 _ _ _ _ _ _ | with_reducible exact Junk.app3 _ _ _ _ _ _ _ | with_reducible exact Junk.app4 _ _ _ _ _ _ _ _ | with_reducible exact Junk.app5 _ _ _ _ _ _ _ _ _ | apply Junk.alloc | apply Junk.junk | apply Junk.drew | apply Junk.drewN)))))).mono ?_; intro e w' hp; obtain ⟨rfl, ⟨osj2, dj2, rfl⟩⟩ := hp.bad h0; clear hp)
      | (go_at_call 17; refine (rparse_any oa n c xs _ (by omega) (HB.out.on (by ((try simp only [World.junk_junk, Array.append_assoc]); (repeat (first | with_reducible exact Junk.refl _ | with_reducible exact Junk.app _ _ _ _ _ | with_reducible exact Junk.app2 _ _ _ _ _ _ | with_reducible exact Junk.app3 _ _ _ _ _ _ _ | with_reducible exact Junk.app4 _ _ _ _ _ _ _ _ | with_reducible exact Junk.app5 _ _ _ _ _ _ _ _ _ | apply Junk.alloc | apply Junk.junk | apply Junk.drew | apply Junk.drewN)))))).mono ?_; intro e w' hp; obtain ⟨rfl, ⟨osj3, dj3, rfl⟩⟩ := hp.bad h0; clear hp)
      | (go_at_call 18; refine (rmsame_any 0 0 0 0 0 0 none none 0 0 0 0 xs xs _ (by omega) (by omega) (bts_nil _ _) (bts_nil _ _)).mono ?_; rintro e w' ⟨rfl, ⟨osj, dj, rfl⟩⟩))
    go_ret
    exact ⟨ret_bool rfl, by ((try simp only [World.junk_junk, Array.append_assoc]); (repeat (first | with_reducible exact Junk.refl _ | with_reducible exact Junk.app _ _ _ _ _ | with_reducible exact Junk.app2 _ _ _ _ _ _ | with_reducible exact Junk.app3 _ _ _ _ _ _ _ | with_reducible exact Junk.app4 _ _ _ _ _ _ _ _ | with_reducible exact Junk.app5 _ _ _ _ _ _ _ _ _ | apply Junk.alloc | apply Junk.junk | apply Junk.drew | apply Junk.drewN)))⟩

theorem icmpReads_core (W : World) (base : Nat) (v0 : Value) (a0 : Arg Try.prog W base 22 v0) :
    Calls Try.prog 3 #[v0] W fun e W' => e = .returned (.bool true) ∧ Junk W W' := by
  have f_b := a0.slice Try.underlying22
  obtain ⟨b_a, b_l, b_c, b, e_b, lc_b, cm_b, S_b, w_b⟩ := f_b.ints Try.underlying22 Try.underlying5 (by kernel_rfl); cases e_b
  have hlm : maxLen = 9223372036854775807 := rfl
  exact icmpReads_walk b_a b_l b_c (min b_l 3000) b W ⟨S_b, fun i hi => bounds_u8 (w_b i hi), Cells.nil_slice Try.underlying22 f_b, lc_b, cm_b⟩ (by omega) (by omega) (by omega)
set_option maxRecDepth 100000 in
theorem icmpReads_lifted (os : Os) (started : os.Started) (H : Type) (enc : TypeId × Value → H) :
    ReturnsInHanded {} Try.checked os 3 .any (Rows.icmpReadsSpec.pre6 enc Try.prog Try.f3 Rows.icmpReadsRow.domain false) (Rows.icmpReadsSpec.post enc Try.prog Try.f3 false true false false) := by
  refine returnsInHanded_of_change (C := Try.checked) (by kernel_rfl) started (by kernel_rfl) Try.func3
    (ChangeSpec.witness6 (enc := enc) (C := Try.checked) false ⟨#[], #[.slice none 0 0], []⟩ 8 (by kernel_rfl) (by kernel_rfl) (by kernel_rfl) (by kernel_rfl)) ?_
  intro W base args ds gs before hval hW _ _
  obtain ⟨p, q, hA, _, _, _, _⟩ := id hW
  have hargs : Args Try.prog W base Try.f3.params.toList args.toList := args_of (fun j t v h1 h2 => hval j t v (by simpa using h1) (by simpa using h2)) hA
  rw [Try.params3] at hargs
  obtain ⟨v0, l0, e0, a0, r0⟩ := args_cons hargs
  have hn := args_nil r0
  have he : args = #[v0] := by
    apply Array.ext'
    simp only [e0, hn]
  subst he
  exact (icmpReads_core W base v0 a0).mono fun e W' ⟨he, hj⟩ => ⟨_, he, post_true (tb := 4) (by kernel_rfl) (by kernel_rfl) rfl (by kernel_rfl) rfl hW (fun hg hl => by
    subst hg
    match ds, hl with
    | [_], _ => exact ⟨rfl, rfl, rfl⟩) hj⟩
theorem icmpReads_holds : Rows.IcmpReadsSaid :=
  OpenClaim.holds_of_wide 3 Try.f3 rfl rfl rfl rfl rfl rfl rfl ⟨rfl, rfl, rfl, rfl, rfl⟩ rfl rfl rfl rfl rfl (by kernel_rfl) Try.func3 (by kernel_rfl)
    (of_decide_eq_true (by kernel_rfl)) (by unfold Func.isWrapper; rw [if_neg (of_decide_eq_false (by kernel_rfl))]; exact ⟨rfl, rfl⟩)
    (fun os started H enc _ => icmpReads_lifted os started H enc)

end Go.Proofs.Yteegeckkfdeccaa
