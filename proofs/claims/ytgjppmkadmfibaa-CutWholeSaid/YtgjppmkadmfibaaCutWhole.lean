/- The law CutWhole: the pieces of a packet make it, put together, whatever order they come in; cut once more, for a narrower way, too. -/
import Derived.Test.YtgjppmkadmfibaaRwA
set_option linter.unusedVariables false
set_option maxRecDepth 100000
set_option linter.unusedSimpArgs false
namespace Go.Proofs.Ytgjppmkadmfibaa
open Go.RowKit
theorem short_val {b : Bool} (p : Ip) (oo ob : Option Addr) (oc bc : Nat) (hm : shortB p = b) (w : World) : Calls Try.prog 17 #[.agg #[.int .i64 p.tos, .int .i64 p.id, .bool p.df, .bool p.mf, .int .i64 p.off, .int .i64 p.ttl, .int .i64 p.proto, .int .u32 p.src, .int .u32 p.dst, .slice oo p.ol oc, .slice ob p.bl bc]] w fun e w' => e = .returned (.bool b) ∧ Junk w w' := by
  subst hm
  exact short_any p oo ob oc bc w
set_option maxHeartbeats 4000000 in
theorem cutWhole_walk (tos id : Int) (df mf0 : Bool) (off0 ttl proto src dst : Int) (ol : Nat) (opts : Nat → Int) (bl : Nat) (body : Nat → Int) (mtu narrow : Int) (oo ob : Option Addr) (oc bc : Nat) (oor : Option Addr) (rl rc : Nat) (ys : Nat → Int) (w : World) (hP : IpAt w (Ip.mk tos id df false 0 ttl proto src dst ol opts bl body) oo oc ob bc) (hO : IntsAt w oor rl .u8 ys) (hy : ∀ i, i < rl → 0 ≤ ys i ∧ ys i ≤ 255) (hrl : rl ≤ 9223372036854775807) :
    Calls Try.prog 6 #[.agg #[.int .i64 tos, .int .i64 id, .bool df, .bool mf0, .int .i64 off0, .int .i64 ttl, .int .i64 proto, .int .u32 src, .int .u32 dst, .slice oo ol oc, .slice ob bl bc], .int .i64 mtu, .int .i64 narrow, .slice oor rl rc] w fun e w' => e = .returned (.bool true) ∧ Junk w w' := by
  cases hs : shortB (Ip.mk tos id df false 0 ttl proto src dst ol opts bl body) with
  | false =>
    have HSH := Lib.hid (fun w1 => show Calls Try.prog 17 #[.agg #[.int .i64 tos, .int .i64 id, .bool df, .bool false, .int .i64 0, .int .i64 ttl, .int .i64 proto, .int .u32 src, .int .u32 dst, .slice oo ol oc, .slice ob bl bc]] w1 fun e w' => e = .returned (.bool false) ∧ Junk w1 w' from short_val (Ip.mk tos id df false 0 ttl proto src dst ol opts bl body) oo ob oc bc hs w1)
    clear hP hO hy hs
    go_enter Try.func6, Try.ntmps6
    go_wp2_with (first
      | (go_at_call 16; (with_reducible refine (awake08_any _).mono ?_); rintro e w' ⟨rfl, ⟨osj, dj, rfl⟩⟩)
      | (go_at_call 17; (with_reducible refine (HSH.out _).mono ?_); rintro e w' ⟨rfl, ⟨osj2, dj2, rfl⟩⟩))
    go_ret
    exact ⟨rfl, by (exact jkc)⟩
  | true =>
    have HSH := Lib.hid (fun w1 => show Calls Try.prog 17 #[.agg #[.int .i64 tos, .int .i64 id, .bool df, .bool false, .int .i64 0, .int .i64 ttl, .int .i64 proto, .int .u32 src, .int .u32 dst, .slice oo ol oc, .slice ob bl bc]] w1 fun e w' => e = .returned (.bool true) ∧ Junk w1 w' from short_val (Ip.mk tos id df false 0 ttl proto src dst ol opts bl body) oo ob oc bc hs w1)
    have hb := shortB_true hs
    have b1 : ol ≤ 100 := hb.1
    have b2 : bl ≤ 3000 := hb.2
    by_cases h6 : 1000 < bl
    · have h6i : (1000 : Int) < (bl : Int) := by omega
      clear hP hO hy hs hb
      go_enter Try.func6, Try.ntmps6
      go_wp2_with (first
        | (go_at_call 16; (with_reducible refine (awake08_any _).mono ?_); rintro e w' ⟨rfl, ⟨osj, dj, rfl⟩⟩)
        | (go_at_call 17; (with_reducible refine (HSH.out _).mono ?_); rintro e w' ⟨rfl, ⟨osj2, dj2, rfl⟩⟩))
      go_ret
      exact ⟨rfl, by (exact jkc)⟩
    by_cases hE : cutErr (Ip.mk tos id df false 0 ttl proto src dst ol opts bl body) mtu = 0
    · exact cutWhole_main tos id df mf0 off0 ttl proto src dst ol opts bl body mtu narrow oo ob oc bc oor rl rc ys w hP hO hy hrl HSH.out (by omega) hE
    · have HCU := Lib.hid (fun w1 (hj : Junk w w1) => cut_no (Ip.mk tos id df false 0 ttl proto src dst ol opts bl body) mtu oo ob oc bc w1 (by show ol ≤ _; omega) (by show bl ≤ _; omega) (hP.on hj) hE)
      have h6i : ¬ (1000 : Int) < (bl : Int) := by omega
      clear hP hO hy hs hb hE
      go_enter Try.func6, Try.ntmps6
      go_wp2_with (first
        | (go_at_call 16; (with_reducible refine (awake08_any _).mono ?_); rintro e w' ⟨rfl, ⟨osj, dj, rfl⟩⟩)
        | (go_at_call 17; (with_reducible refine (HSH.out _).mono ?_); rintro e w' ⟨rfl, ⟨osj2, dj2, rfl⟩⟩)
        | (go_at_call 18; (with_reducible refine (HCU.out _ (by (exact jkc))).mono ?_); rintro e w' ⟨⟨osj3, dj3, rfl⟩, oa2, cap2, n2, er, rfl, her⟩))
      go_ret
      exact ⟨rfl, by (exact jkc)⟩
theorem cutWhole_core (W : World) (base : Nat) (v0 v1 v2 v3 : Value) (a0 : Arg Try.prog W base 25 v0) (a1 : Arg Try.prog W base 3 v1) (a2 : Arg Try.prog W base 3 v2) (a3 : Arg Try.prog W base 23 v3) :
    Calls Try.prog 6 #[v0, v1, v2, v3] W fun e W' => e = .returned (.bool true) ∧ Junk W W' := by
  obtain ⟨cs_p, rfl, h_p⟩ := a0.struct Try.underlying25
  obtain ⟨hl_p, hf_p⟩ := h_p.fields1 Try.underlying25 (by kernel_rfl) (n := 11) (by kernel_rfl)
  obtain ⟨p_TOS, lp0, e_p0⟩ : ∃ x l, cs_p = x :: l := by cases cs_p with | nil => simp at hl_p | cons x l => exact ⟨x, l, rfl⟩
  subst e_p0
  obtain ⟨p_ID, lp1, e_p1⟩ : ∃ x l, lp0 = x :: l := by cases lp0 with | nil => simp at hl_p | cons x l => exact ⟨x, l, rfl⟩
  subst e_p1
  obtain ⟨p_DF, lp2, e_p2⟩ : ∃ x l, lp1 = x :: l := by cases lp1 with | nil => simp at hl_p | cons x l => exact ⟨x, l, rfl⟩
  subst e_p2
  obtain ⟨p_MF, lp3, e_p3⟩ : ∃ x l, lp2 = x :: l := by cases lp2 with | nil => simp at hl_p | cons x l => exact ⟨x, l, rfl⟩
  subst e_p3
  obtain ⟨p_Off, lp4, e_p4⟩ : ∃ x l, lp3 = x :: l := by cases lp3 with | nil => simp at hl_p | cons x l => exact ⟨x, l, rfl⟩
  subst e_p4
  obtain ⟨p_TTL, lp5, e_p5⟩ : ∃ x l, lp4 = x :: l := by cases lp4 with | nil => simp at hl_p | cons x l => exact ⟨x, l, rfl⟩
  subst e_p5
  obtain ⟨p_Proto, lp6, e_p6⟩ : ∃ x l, lp5 = x :: l := by cases lp5 with | nil => simp at hl_p | cons x l => exact ⟨x, l, rfl⟩
  subst e_p6
  obtain ⟨p_Src, lp7, e_p7⟩ : ∃ x l, lp6 = x :: l := by cases lp6 with | nil => simp at hl_p | cons x l => exact ⟨x, l, rfl⟩
  subst e_p7
  obtain ⟨p_Dst, lp8, e_p8⟩ : ∃ x l, lp7 = x :: l := by cases lp7 with | nil => simp at hl_p | cons x l => exact ⟨x, l, rfl⟩
  subst e_p8
  obtain ⟨p_Opts, lp9, e_p9⟩ : ∃ x l, lp8 = x :: l := by cases lp8 with | nil => simp at hl_p | cons x l => exact ⟨x, l, rfl⟩
  subst e_p9
  obtain ⟨p_Body, lp10, e_p10⟩ : ∃ x l, lp9 = x :: l := by cases lp9 with | nil => simp at hl_p | cons x l => exact ⟨x, l, rfl⟩
  subst e_p10
  obtain rfl : lp10 = [] := by simpa using hl_p
  have f_p0 : Cells Try.prog W 3 [p_TOS] := hf_p 0 _ rfl
  have f_p1 : Cells Try.prog W 3 [p_ID] := hf_p 1 _ rfl
  have f_p2 : Cells Try.prog W 4 [p_DF] := hf_p 2 _ rfl
  have f_p3 : Cells Try.prog W 4 [p_MF] := hf_p 3 _ rfl
  have f_p4 : Cells Try.prog W 3 [p_Off] := hf_p 4 _ rfl
  have f_p5 : Cells Try.prog W 3 [p_TTL] := hf_p 5 _ rfl
  have f_p6 : Cells Try.prog W 3 [p_Proto] := hf_p 6 _ rfl
  have f_p7 : Cells Try.prog W 22 [p_Src] := hf_p 7 _ rfl
  have f_p8 : Cells Try.prog W 22 [p_Dst] := hf_p 8 _ rfl
  have f_p9 : Cells Try.prog W 23 [p_Opts] := hf_p 9 _ rfl
  have f_p10 : Cells Try.prog W 23 [p_Body] := hf_p 10 _ rfl
  clear hf_p hl_p
  obtain ⟨p_TOS, e_p_TOS, w_p_TOS⟩ := f_p0.int Try.underlying3; cases e_p_TOS
  obtain ⟨p_ID, e_p_ID, w_p_ID⟩ := f_p1.int Try.underlying3; cases e_p_ID
  obtain ⟨p_DF, e_p_DF⟩ := f_p2.bool Try.underlying4; cases e_p_DF
  obtain ⟨p_MF, e_p_MF⟩ := f_p3.bool Try.underlying4; cases e_p_MF
  obtain ⟨p_Off, e_p_Off, w_p_Off⟩ := f_p4.int Try.underlying3; cases e_p_Off
  obtain ⟨p_TTL, e_p_TTL, w_p_TTL⟩ := f_p5.int Try.underlying3; cases e_p_TTL
  obtain ⟨p_Proto, e_p_Proto, w_p_Proto⟩ := f_p6.int Try.underlying3; cases e_p_Proto
  obtain ⟨p_Src, e_p_Src, w_p_Src⟩ := f_p7.int Try.underlying22; cases e_p_Src
  obtain ⟨p_Dst, e_p_Dst, w_p_Dst⟩ := f_p8.int Try.underlying22; cases e_p_Dst
  obtain ⟨p_Opts_a, p_Opts_l, p_Opts_c, p_Opts, e_p_Opts, lc_p_Opts, cm_p_Opts, S_p_Opts, w_p_Opts⟩ := f_p9.ints Try.underlying23 Try.underlying5 (by kernel_rfl); cases e_p_Opts
  obtain ⟨p_Body_a, p_Body_l, p_Body_c, p_Body, e_p_Body, lc_p_Body, cm_p_Body, S_p_Body, w_p_Body⟩ := f_p10.ints Try.underlying23 Try.underlying5 (by kernel_rfl); cases e_p_Body
  obtain ⟨mtu, rfl, w_mtu⟩ := a1.int Try.underlying3
  obtain ⟨narrow, rfl, w_narrow⟩ := a2.int Try.underlying3
  have f_order := a3.slice Try.underlying23
  obtain ⟨order_a, order_l, order_c, order, e_order, lc_order, cm_order, S_order, w_order⟩ := f_order.ints Try.underlying23 Try.underlying5 (by kernel_rfl); cases e_order
  have hP : IpAt W (Ip.mk p_TOS p_ID p_DF false 0 p_TTL p_Proto p_Src p_Dst p_Opts_l p_Opts p_Body_l p_Body) p_Opts_a p_Opts_c p_Body_a p_Body_c := ⟨⟨S_p_Opts, fun i hi => bounds_u8 (w_p_Opts i hi), Cells.nil_slice Try.underlying23 f_p9, lc_p_Opts, cm_p_Opts⟩, ⟨S_p_Body, fun i hi => bounds_u8 (w_p_Body i hi), Cells.nil_slice Try.underlying23 f_p10, lc_p_Body, cm_p_Body⟩, bounds_u32 w_p_Src, bounds_u32 w_p_Dst⟩
  exact cutWhole_walk p_TOS p_ID p_DF p_MF p_Off p_TTL p_Proto p_Src p_Dst p_Opts_l p_Opts p_Body_l p_Body mtu narrow p_Opts_a p_Body_a p_Opts_c p_Body_c order_a order_l order_c order W hP S_order (fun i hi => bounds_u8 (w_order i hi)) (Nat.le_trans (Nat.le_trans lc_order cm_order) (by decide))
set_option maxRecDepth 100000 in
theorem cutWhole_lifted (os : Os) (started : os.Started) (H : Type) (enc : TypeId × Value → H) :
    ReturnsInHanded {} Try.checked os 6 .any (Rows.cutWholeSpec.pre6 enc Try.prog Try.f6 Rows.cutWholeRow.domain false) (Rows.cutWholeSpec.post enc Try.prog Try.f6 false true false false) := by
  refine returnsInHanded_of_change (C := Try.checked) (by kernel_rfl) started (by kernel_rfl) Try.func6
    (ChangeSpec.witness6 (enc := enc) (C := Try.checked) false ⟨#[], #[.agg #[.int .i64 0, .int .i64 0, .bool false, .bool false, .int .i64 0, .int .i64 0, .int .i64 0, .int .u32 0, .int .u32 0, .slice none 0 0, .slice none 0 0], .int .i64 0, .int .i64 0, .slice none 0 0], []⟩ 8 (by kernel_rfl) (by kernel_rfl) (by kernel_rfl) (by kernel_rfl)) ?_
  intro W base args ds gs before hval hW _ _
  obtain ⟨p, q, hA, _, _, _, _⟩ := id hW
  have hargs : Args Try.prog W base Try.f6.params.toList args.toList := args_of (fun j t v h1 h2 => hval j t v (by simpa using h1) (by simpa using h2)) hA
  rw [Try.params6] at hargs
  obtain ⟨v0, l0, e0, a0, r0⟩ := args_cons hargs
  obtain ⟨v1, l1, e1, a1, r1⟩ := args_cons r0
  obtain ⟨v2, l2, e2, a2, r2⟩ := args_cons r1
  obtain ⟨v3, l3, e3, a3, r3⟩ := args_cons r2
  have hn := args_nil r3
  have he : args = #[v0, v1, v2, v3] := by
    apply Array.ext'
    simp only [e0, e1, e2, e3, hn]
  subst he
  exact (cutWhole_core W base v0 v1 v2 v3 a0 a1 a2 a3).mono fun e W' ⟨he, hj⟩ => ⟨_, he, post_true (tb := 4) (by kernel_rfl) (by kernel_rfl) rfl (by kernel_rfl) rfl hW (fun hg hl => by
    subst hg
    match ds, hl with
    | [_, _, _, _], _ => exact ⟨rfl, rfl, rfl⟩) hj⟩
theorem cutWhole_holds : Rows.CutWholeSaid :=
  OpenClaim.holds_of_wide 6 Try.f6 rfl rfl rfl rfl rfl rfl rfl ⟨rfl, rfl, rfl, rfl, rfl⟩ rfl rfl rfl rfl rfl (by kernel_rfl) Try.func6 (by kernel_rfl)
    (of_decide_eq_true (by kernel_rfl)) (by unfold Func.isWrapper; rw [if_neg (of_decide_eq_false (by kernel_rfl))]; exact ⟨rfl, rfl⟩)
    (fun os started H enc _ => cutWhole_lifted os started H enc)

end Go.Proofs.Ytgjppmkadmfibaa
