/- The law IpReads: any bytes are the document's packet, or have its first error. -/
import Derived.Test.YteegeckkfdeccaaIpRParse
import Derived.Test.YteegeckkfdeccaaIpRSame
set_option linter.unusedVariables false
set_option linter.unusedSimpArgs false
namespace Go.Proofs.Yteegeckkfdeccaa
open Go.RowKit
theorem parseIp_head {w : World} {oa : Option Addr} {l c : Nat} {xs : Nat → Int} (hB : Bts w oa l c xs) (h : parseErr xs l = 0) : HeadP (parseIp xs) := by
  have hl : lenErr xs l = 0 := by
    unfold parseErr at h
    split at h
    · exact h
    · rename_i h1; simpa using h1
  obtain ⟨k1, k0, k2, k3, k4, k5, _⟩ := lenErr_zero hl
  have x0 := hB.byte 0 (by omega); have x1 := hB.byte 1 (by omega); have x2 := hB.byte 2 (by omega); have x3 := hB.byte 3 (by omega); have x4 := hB.byte 4 (by omega); have x5 := hB.byte 5 (by omega)
  have x6 := hB.byte 6 (by omega); have x7 := hB.byte 7 (by omega); have x8 := hB.byte 8 (by omega); have x9 := hB.byte 9 (by omega)
  unfold ipSize at k2 k3 k4
  unfold ipTotal at k4 k5
  refine ⟨?_, ?_, ?_, ?_, ?_, ?_, ?_⟩
  all_goals simp only [parseIp, mkIp, ipFlags, ipSize, ipTotal]
  all_goals omega
theorem zeroIp_head : HeadP zeroIp := ⟨by decide, by decide, by decide, by decide, by decide, by decide, by decide⟩
theorem zeroIp_at (w : World) : IpAt w zeroIp none 0 none 0 := ⟨bts_none _ _, bts_none _ _, by decide, by decide⟩
set_option maxHeartbeats 1000000 in
theorem ipReads_walk (oa : Option Addr) (l c n : Nat) (xs : Nat → Int) (w : World) (hB : Bts w oa l c xs) (hmin : (min (l : Int) 3000).toNat = n) (hn : n ≤ l) (hn3 : n ≤ 3000) :
    Calls Try.prog 11 #[.slice oa l c] w fun e w' => e = .returned (.bool true) ∧ Junk w w' := by
  have hB2 : Bts w oa n c xs := ⟨fun i hi => hB.at_ i (by omega), fun i hi => hB.byte i (by omega), fun h => by have := hB.nil h; omega, by have := hB.le; omega, hB.cap⟩
  have HB := Lib.hid hB2
  have hlc := hB.le
  have hcm : c ≤ 9223372036854775807 := hB.cap
  clear hB hB2
  have hr := fun p => sameIp_refl p
  by_cases h0 : parseErr xs n = 0
  · have HH := Lib.hid (parseIp_head HB.out h0)
    go_enter Try.func11, Try.ntmps11
    go_wp2_with (first | (go_at_call 29; refine (awake03_any _).mono ?_; rintro e w' ⟨rfl, ⟨osj, dj, rfl⟩⟩) | (go_at_call 32; refine (ipParse_any oa n c xs _ (by omega) (HB.out.on (by ((try simp only [World.junk_junk, Array.append_assoc]); (repeat (first | with_reducible exact Junk.refl _ | with_reducible exact Junk.app _ _ _ _ _ | with_reducible exact Junk.app2 _ _ _ _ _ _ | with_reducible exact Junk.app3 _ _ _ _ _ _ _ | with_reducible exact Junk.app4 _ _ _ _ _ _ _ _ | with_reducible exact Junk.app5 _ _ _ _ _ _ _ _ _ | with_reducible apply Junk.alloc | with_reducible apply Junk.junk | with_reducible apply Junk.drew | with_reducible apply Junk.drewN)))))).mono ?_; intro e w' hp; obtain ⟨o1, o2, k1, k2, rfl, ⟨osj2, dj2, rfl⟩, hb⟩ := hp.ok h0; clear hp; have Hb2 := Lib.hid hb; clear hb) | (go_at_call 39; refine (ipRParse_any oa n c xs _ (by omega) (HB.out.on (by ((try simp only [World.junk_junk, Array.append_assoc]); (repeat (first | with_reducible exact Junk.refl _ | with_reducible exact Junk.app _ _ _ _ _ | with_reducible exact Junk.app2 _ _ _ _ _ _ | with_reducible exact Junk.app3 _ _ _ _ _ _ _ | with_reducible exact Junk.app4 _ _ _ _ _ _ _ _ | with_reducible exact Junk.app5 _ _ _ _ _ _ _ _ _ | with_reducible apply Junk.alloc | with_reducible apply Junk.junk | with_reducible apply Junk.drew | with_reducible apply Junk.drewN)))))).mono ?_; intro e w' hp; obtain ⟨o3, o4, k3, k4, rfl, ⟨osj3, dj3, rfl⟩, hb⟩ := hp.ok h0; clear hp; have Hb3 := Lib.hid hb; clear hb) | (go_at_call 38; refine (ipSame_any (parseIp xs) (parseIp xs) o1 o2 o3 o4 k1 k2 k3 k4 _ (Hb2.out.on (by ((try simp only [World.junk_junk, Array.append_assoc]); (repeat (first | with_reducible exact Junk.refl _ | with_reducible exact Junk.app _ _ _ _ _ | with_reducible exact Junk.app2 _ _ _ _ _ _ | with_reducible exact Junk.app3 _ _ _ _ _ _ _ | with_reducible exact Junk.app4 _ _ _ _ _ _ _ _ | with_reducible exact Junk.app5 _ _ _ _ _ _ _ _ _ | with_reducible apply Junk.alloc | with_reducible apply Junk.junk | with_reducible apply Junk.drew | with_reducible apply Junk.drewN))))) (Hb3.out.on (by ((try simp only [World.junk_junk, Array.append_assoc]); (repeat (first | with_reducible exact Junk.refl _ | with_reducible exact Junk.app _ _ _ _ _ | with_reducible exact Junk.app2 _ _ _ _ _ _ | with_reducible exact Junk.app3 _ _ _ _ _ _ _ | with_reducible exact Junk.app4 _ _ _ _ _ _ _ _ | with_reducible exact Junk.app5 _ _ _ _ _ _ _ _ _ | with_reducible apply Junk.alloc | with_reducible apply Junk.junk | with_reducible apply Junk.drew | with_reducible apply Junk.drewN)))))).mono ?_; rintro e w' ⟨rfl, ⟨osj, dj, rfl⟩⟩) | (go_at_call 37; refine (ipRSame_any (parseIp xs) o1 o2 o3 o4 k1 k2 k3 k4 _ HH.out (Hb2.out.on (by ((try simp only [World.junk_junk, Array.append_assoc]); (repeat (first | with_reducible exact Junk.refl _ | with_reducible exact Junk.app _ _ _ _ _ | with_reducible exact Junk.app2 _ _ _ _ _ _ | with_reducible exact Junk.app3 _ _ _ _ _ _ _ | with_reducible exact Junk.app4 _ _ _ _ _ _ _ _ | with_reducible exact Junk.app5 _ _ _ _ _ _ _ _ _ | with_reducible apply Junk.alloc | with_reducible apply Junk.junk | with_reducible apply Junk.drew | with_reducible apply Junk.drewN))))) (Hb3.out.on (by ((try simp only [World.junk_junk, Array.append_assoc]); (repeat (first | with_reducible exact Junk.refl _ | with_reducible exact Junk.app _ _ _ _ _ | with_reducible exact Junk.app2 _ _ _ _ _ _ | with_reducible exact Junk.app3 _ _ _ _ _ _ _ | with_reducible exact Junk.app4 _ _ _ _ _ _ _ _ | with_reducible exact Junk.app5 _ _ _ _ _ _ _ _ _ | with_reducible apply Junk.alloc | with_reducible apply Junk.junk | with_reducible apply Junk.drew | with_reducible apply Junk.drewN)))))).mono ?_; rintro e w' ⟨rfl, ⟨osj, dj, rfl⟩⟩))
    go_ret
    exact ⟨ret_bool rfl, by ((try simp only [World.junk_junk, Array.append_assoc]); (repeat (first | with_reducible exact Junk.refl _ | with_reducible exact Junk.app _ _ _ _ _ | with_reducible exact Junk.app2 _ _ _ _ _ _ | with_reducible exact Junk.app3 _ _ _ _ _ _ _ | with_reducible exact Junk.app4 _ _ _ _ _ _ _ _ | with_reducible exact Junk.app5 _ _ _ _ _ _ _ _ _ | with_reducible apply Junk.alloc | with_reducible apply Junk.junk | with_reducible apply Junk.drew | with_reducible apply Junk.drewN)))⟩
  · go_enter Try.func11, Try.ntmps11
    go_wp2_with (first | (go_at_call 29; refine (awake03_any _).mono ?_; rintro e w' ⟨rfl, ⟨osj, dj, rfl⟩⟩) | (go_at_call 32; refine (ipParse_any oa n c xs _ (by omega) (HB.out.on (by ((try simp only [World.junk_junk, Array.append_assoc]); (repeat (first | with_reducible exact Junk.refl _ | with_reducible exact Junk.app _ _ _ _ _ | with_reducible exact Junk.app2 _ _ _ _ _ _ | with_reducible exact Junk.app3 _ _ _ _ _ _ _ | with_reducible exact Junk.app4 _ _ _ _ _ _ _ _ | with_reducible exact Junk.app5 _ _ _ _ _ _ _ _ _ | with_reducible apply Junk.alloc | with_reducible apply Junk.junk | with_reducible apply Junk.drew | with_reducible apply Junk.drewN)))))).mono ?_; intro e w' hp; obtain ⟨rfl, ⟨osj2, dj2, rfl⟩⟩ := hp.bad h0; clear hp) | (go_at_call 39; refine (ipRParse_any oa n c xs _ (by omega) (HB.out.on (by ((try simp only [World.junk_junk, Array.append_assoc]); (repeat (first | with_reducible exact Junk.refl _ | with_reducible exact Junk.app _ _ _ _ _ | with_reducible exact Junk.app2 _ _ _ _ _ _ | with_reducible exact Junk.app3 _ _ _ _ _ _ _ | with_reducible exact Junk.app4 _ _ _ _ _ _ _ _ | with_reducible exact Junk.app5 _ _ _ _ _ _ _ _ _ | with_reducible apply Junk.alloc | with_reducible apply Junk.junk | with_reducible apply Junk.drew | with_reducible apply Junk.drewN)))))).mono ?_; intro e w' hp; obtain ⟨rfl, ⟨osj3, dj3, rfl⟩⟩ := hp.bad h0; clear hp) | (go_at_call 38; refine (ipSame_any zeroIp zeroIp none none none none 0 0 0 0 _ (zeroIp_at _) (zeroIp_at _)).mono ?_; rintro e w' ⟨rfl, ⟨osj, dj, rfl⟩⟩) | (go_at_call 37; refine (ipRSame_any zeroIp none none none none 0 0 0 0 _ zeroIp_head (zeroIp_at _) (zeroIp_at _)).mono ?_; rintro e w' ⟨rfl, ⟨osj, dj, rfl⟩⟩))
    go_ret
    exact ⟨ret_bool rfl, by ((try simp only [World.junk_junk, Array.append_assoc]); (repeat (first | with_reducible exact Junk.refl _ | with_reducible exact Junk.app _ _ _ _ _ | with_reducible exact Junk.app2 _ _ _ _ _ _ | with_reducible exact Junk.app3 _ _ _ _ _ _ _ | with_reducible exact Junk.app4 _ _ _ _ _ _ _ _ | with_reducible exact Junk.app5 _ _ _ _ _ _ _ _ _ | with_reducible apply Junk.alloc | with_reducible apply Junk.junk | with_reducible apply Junk.drew | with_reducible apply Junk.drewN)))⟩

theorem ipReads_core (W : World) (base : Nat) (v0 : Value) (a0 : Arg Try.prog W base 22 v0) :
    Calls Try.prog 11 #[v0] W fun e W' => e = .returned (.bool true) ∧ Junk W W' := by
  have f_b := a0.slice Try.underlying22
  obtain ⟨b_a, b_l, b_c, b, e_b, lc_b, cm_b, S_b, w_b⟩ := f_b.ints Try.underlying22 Try.underlying5 (by kernel_rfl); cases e_b
  have hlm : maxLen = 9223372036854775807 := rfl
  exact ipReads_walk b_a b_l b_c (min b_l 3000) b W ⟨S_b, fun i hi => bounds_u8 (w_b i hi), Cells.nil_slice Try.underlying22 f_b, lc_b, cm_b⟩ (by omega) (by omega) (by omega)
set_option maxRecDepth 100000 in
theorem ipReads_lifted (os : Os) (started : os.Started) (H : Type) (enc : TypeId × Value → H) :
    ReturnsInHanded {} Try.checked os 11 .any (Rows.ipReadsSpec.pre6 enc Try.prog Try.f11 Rows.ipReadsRow.domain false) (Rows.ipReadsSpec.post enc Try.prog Try.f11 false true false false) := by
  refine returnsInHanded_of_change (C := Try.checked) (by kernel_rfl) started (by kernel_rfl) Try.func11
    (ChangeSpec.witness6 (enc := enc) (C := Try.checked) false ⟨#[], #[.slice none 0 0], []⟩ 8 (by kernel_rfl) (by kernel_rfl) (by kernel_rfl) (by kernel_rfl)) ?_
  intro W base args ds gs before hval hW _ _
  obtain ⟨p, q, hA, _, _, _, _⟩ := id hW
  have hargs : Args Try.prog W base Try.f11.params.toList args.toList := args_of (fun j t v h1 h2 => hval j t v (by simpa using h1) (by simpa using h2)) hA
  rw [Try.params11] at hargs
  obtain ⟨v0, l0, e0, a0, r0⟩ := args_cons hargs
  have hn := args_nil r0
  have he : args = #[v0] := by
    apply Array.ext'
    simp only [e0, hn]
  subst he
  exact (ipReads_core W base v0 a0).mono fun e W' ⟨he, hj⟩ => ⟨_, he, post_true (tb := 4) (by kernel_rfl) (by kernel_rfl) rfl (by kernel_rfl) rfl hW (fun hg hl => by
    subst hg
    match ds, hl with
    | [_], _ => exact ⟨rfl, rfl, rfl⟩) hj⟩
theorem ipReads_holds : Rows.IpReadsSaid :=
  OpenClaim.holds_of_wide 11 Try.f11 rfl rfl rfl rfl rfl rfl rfl ⟨rfl, rfl, rfl, rfl, rfl⟩ rfl rfl rfl rfl rfl (by kernel_rfl) Try.func11 (by kernel_rfl)
    (of_decide_eq_true (by kernel_rfl)) (by unfold Func.isWrapper; rw [if_neg (of_decide_eq_false (by kernel_rfl))]; exact ⟨rfl, rfl⟩)
    (fun os started H enc _ => ipReads_lifted os started H enc)

end Go.Proofs.Yteegeckkfdeccaa
