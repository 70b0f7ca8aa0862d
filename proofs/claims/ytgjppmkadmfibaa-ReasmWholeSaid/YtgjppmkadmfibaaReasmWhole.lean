/- The law ReasmWhole: a packet that was cut anywhere comes together whatever order its pieces come in. -/
import Derived.Test.YtgjppmkadmfibaaRuW
set_option linter.unusedVariables false
set_option maxRecDepth 100000
set_option linter.unusedSimpArgs false
namespace Go.Proofs.Ytgjppmkadmfibaa
open Go.RowKit
theorem may_val {b : Bool} (p : Ip) (oo ob : Option Addr) (oc bc : Nat) (h1 : p.ol ≤ 9223372036854775807) (h2 : p.bl ≤ 9223372036854775807) (hm : mayB p = b) (w : World) :
    Calls Try.prog 8 #[.agg #[.int .i64 p.tos, .int .i64 p.id, .bool p.df, .bool p.mf, .int .i64 p.off, .int .i64 p.ttl, .int .i64 p.proto, .int .u32 p.src, .int .u32 p.dst, .slice oo p.ol oc, .slice ob p.bl bc]] w fun e w' => e = .returned (.bool b) ∧ Junk w w' := by
  subst hm
  exact rmay_any p oo ob oc bc w h1 h2
set_option maxHeartbeats 4000000 in
theorem reasmWhole_walk (tos id : Int) (df mf0 : Bool) (off0 ttl proto src dst : Int) (ol : Nat) (opts : Nat → Int) (bl : Nat) (body : Nat → Int) (oo : Option Addr) (oc bc : Nat) (ocu oor : Option Addr) (cl cc rl rc : Nat) (xs ys : Nat → Int) (w : World) (ob : Option Addr) (hP : IpAt w (Ip.mk tos id df false 0 ttl proto src dst ol opts bl body) oo oc ob bc) (hC : IntsAt w ocu cl .u8 xs) (hx : ∀ i, i < cl → 0 ≤ xs i ∧ xs i ≤ 255) (hO : IntsAt w oor rl .u8 ys) (hy : ∀ i, i < rl → 0 ≤ ys i ∧ ys i ≤ 255) (hcl : cl ≤ 9223372036854775807) (hrl : rl ≤ 9223372036854775807) :
    Calls Try.prog 3 #[.agg #[.int .i64 tos, .int .i64 id, .bool df, .bool mf0, .int .i64 off0, .int .i64 ttl, .int .i64 proto, .int .u32 src, .int .u32 dst, .slice oo ol oc, .slice ob bl bc], .slice ocu cl cc, .slice oor rl rc] w fun e w' => e = .returned (.bool true) ∧ Junk w w' := by
  have b1 : ol ≤ 9223372036854775807 := by have h1 := hP.opts.le; have h2 := hP.opts.cap; simp only [maxLen] at h2; exact Nat.le_trans h1 h2
  have b2 : bl ≤ 9223372036854775807 := by have h1 := hP.body.le; have h2 := hP.body.cap; simp only [maxLen] at h2; exact Nat.le_trans h1 h2
  cases hm : mayB (Ip.mk tos id df false 0 ttl proto src dst ol opts bl body) with
  | false =>
    have HM := Lib.hid (fun w1 => show Calls Try.prog 8 #[.agg #[.int .i64 tos, .int .i64 id, .bool df, .bool false, .int .i64 0, .int .i64 ttl, .int .i64 proto, .int .u32 src, .int .u32 dst, .slice oo ol oc, .slice ob bl bc]] w1 fun e w' => e = .returned (.bool false) ∧ Junk w1 w' from may_val (Ip.mk tos id df false 0 ttl proto src dst ol opts bl body) oo ob oc bc b1 b2 hm w1)
    clear hP hC hx hO hy hm b1 b2
    go_enter Try.func3, Try.ntmps3
    go_wp2_with (first
      | (go_at_call 7; (with_reducible refine (awake7_any _).mono ?_); rintro e w' ⟨rfl, ⟨osj, dj, rfl⟩⟩)
      | (go_at_call 8; (with_reducible refine (HM.out _).mono ?_); rintro e w' ⟨rfl, ⟨osj2, dj2, rfl⟩⟩))
    go_ret
    exact ⟨rfl, by (exact jkc)⟩
  | true =>
    have HM := Lib.hid (fun w1 => show Calls Try.prog 8 #[.agg #[.int .i64 tos, .int .i64 id, .bool df, .bool false, .int .i64 0, .int .i64 ttl, .int .i64 proto, .int .u32 src, .int .u32 dst, .slice oo ol oc, .slice ob bl bc]] w1 fun e w' => e = .returned (.bool true) ∧ Junk w1 w' from may_val (Ip.mk tos id df false 0 ttl proto src dst ol opts bl body) oo ob oc bc b1 b2 hm w1)
    by_cases h6 : 600 < bl
    · have h6i : (600 : Int) < (bl : Int) := by omega
      clear hP hC hx hO hy hm b1
      go_enter Try.func3, Try.ntmps3
      go_wp2_with (first
        | (go_at_call 7; (with_reducible refine (awake7_any _).mono ?_); rintro e w' ⟨rfl, ⟨osj, dj, rfl⟩⟩)
        | (go_at_call 8; (with_reducible refine (HM.out _).mono ?_); rintro e w' ⟨rfl, ⟨osj2, dj2, rfl⟩⟩))
      go_ret
      exact ⟨rfl, by (exact jkc)⟩
    by_cases h9 : bl < 9
    · have h6i : ¬ (600 : Int) < (bl : Int) := by omega
      have h9i : (bl : Int) < 9 := by omega
      clear hP hC hx hO hy hm b1
      go_enter Try.func3, Try.ntmps3
      go_wp2_with (first
        | (go_at_call 7; (with_reducible refine (awake7_any _).mono ?_); rintro e w' ⟨rfl, ⟨osj, dj, rfl⟩⟩)
        | (go_at_call 8; (with_reducible refine (HM.out _).mono ?_); rintro e w' ⟨rfl, ⟨osj2, dj2, rfl⟩⟩))
      go_ret
      exact ⟨rfl, by (exact jkc)⟩
    obtain ⟨b, boff, rfl, _⟩ := bts_part hP.body (show 0 < bl by omega)
    exact reasmWhole_main tos id df mf0 off0 ttl proto src dst ol opts bl body oo oc bc ocu oor cl cc rl rc xs ys w b boff hP hC hx hO hy hcl hrl hm (by omega) (by omega)
theorem reasmWhole_core (W : World) (base : Nat) (v0 v1 v2 : Value) (a0 : Arg Try.prog W base 25 v0) (a1 : Arg Try.prog W base 23 v1) (a2 : Arg Try.prog W base 23 v2) :
    Calls Try.prog 3 #[v0, v1, v2] W fun e W' => e = .returned (.bool true) ∧ Junk W W' := by
  obtain ⟨cs_p, rfl, h_p⟩ := a0.struct Try.underlying25
  obtain ⟨hl_p, hf_p⟩ := h_p.fields1 Try.underlying25 (by kernel_rfl) (n := 11) (by kernel_rfl)
  obtain ⟨p_TOS, lp0, e_p0⟩ : ∃ x l, cs_p = x :: l := by cases cs_p with | nil => simp at hl_p | cons x l => exact ⟨x, l, rfl⟩
  subst e_p0
  obtain ⟨p_ID, lp1, e_p1⟩ : ∃ x l, lp0 = x :: l := by cases lp0 with | nil => simp at hl_p | cons x l => exact ⟨x, l, rfl⟩
  subst e_p1
  obtain ⟨p_DF, lp2, e_p2⟩ : ∃ x l, lp1 = x :: l := by cases lp1 with | nil => simp at hl_p | cons x l => exact ⟨x, l, rfl⟩
  subst e_p2
  obtain ⟨p_MF, lp3, e_p3⟩ : ∃ x l, lp2 = x :: l := by cases lp2 with | nil => simp at hl_p | cons x l => exact ⟨x, l, rfl⟩
  subst e_p3
  obtain ⟨p_Off, lp4, e_p4⟩ : ∃ x l, lp3 = x :: l := by cases lp3 with | nil => simp at hl_p | cons x l => exact ⟨x, l, rfl⟩
  subst e_p4
  obtain ⟨p_TTL, lp5, e_p5⟩ : ∃ x l, lp4 = x :: l := by cases lp4 with | nil => simp at hl_p | cons x l => exact ⟨x, l, rfl⟩
  subst e_p5
  obtain ⟨p_Proto, lp6, e_p6⟩ : ∃ x l, lp5 = x :: l := by cases lp5 with | nil => simp at hl_p | cons x l => exact ⟨x, l, rfl⟩
  subst e_p6
  obtain ⟨p_Src, lp7, e_p7⟩ : ∃ x l, lp6 = x :: l := by cases lp6 with | nil => simp at hl_p | cons x l => exact ⟨x, l, rfl⟩
  subst e_p7
  obtain ⟨p_Dst, lp8, e_p8⟩ : ∃ x l, lp7 = x :: l := by cases lp7 with | nil => simp at hl_p | cons x l => exact ⟨x, l, rfl⟩
  subst e_p8
  obtain ⟨p_Opts, lp9, e_p9⟩ : ∃ x l, lp8 = x :: l := by cases lp8 with | nil => simp at hl_p | cons x l => exact ⟨x, l, rfl⟩
  subst e_p9
  obtain ⟨p_Body, lp10, e_p10⟩ : ∃ x l, lp9 = x :: l := by cases lp9 with | nil => simp at hl_p | cons x l => exact ⟨x, l, rfl⟩
  subst e_p10
  obtain rfl : lp10 = [] := by simpa using hl_p
  have f_p0 : Cells Try.prog W 3 [p_TOS] := hf_p 0 _ rfl
  have f_p1 : Cells Try.prog W 3 [p_ID] := hf_p 1 _ rfl
  have f_p2 : Cells Try.prog W 4 [p_DF] := hf_p 2 _ rfl
  have f_p3 : Cells Try.prog W 4 [p_MF] := hf_p 3 _ rfl
  have f_p4 : Cells Try.prog W 3 [p_Off] := hf_p 4 _ rfl
  have f_p5 : Cells Try.prog W 3 [p_TTL] := hf_p 5 _ rfl
  have f_p6 : Cells Try.prog W 3 [p_Proto] := hf_p 6 _ rfl
  have f_p7 : Cells Try.prog W 22 [p_Src] := hf_p 7 _ rfl
  have f_p8 : Cells Try.prog W 22 [p_Dst] := hf_p 8 _ rfl
  have f_p9 : Cells Try.prog W 23 [p_Opts] := hf_p 9 _ rfl
  have f_p10 : Cells Try.prog W 23 [p_Body] := hf_p 10 _ rfl
  clear hf_p hl_p
  obtain ⟨p_TOS, e_p_TOS, w_p_TOS⟩ := f_p0.int Try.underlying3; cases e_p_TOS
  obtain ⟨p_ID, e_p_ID, w_p_ID⟩ := f_p1.int Try.underlying3; cases e_p_ID
  obtain ⟨p_DF, e_p_DF⟩ := f_p2.bool Try.underlying4; cases e_p_DF
  obtain ⟨p_MF, e_p_MF⟩ := f_p3.bool Try.underlying4; cases e_p_MF
  obtain ⟨p_Off, e_p_Off, w_p_Off⟩ := f_p4.int Try.underlying3; cases e_p_Off
  obtain ⟨p_TTL, e_p_TTL, w_p_TTL⟩ := f_p5.int Try.underlying3; cases e_p_TTL
  obtain ⟨p_Proto, e_p_Proto, w_p_Proto⟩ := f_p6.int Try.underlying3; cases e_p_Proto
  obtain ⟨p_Src, e_p_Src, w_p_Src⟩ := f_p7.int Try.underlying22; cases e_p_Src
  obtain ⟨p_Dst, e_p_Dst, w_p_Dst⟩ := f_p8.int Try.underlying22; cases e_p_Dst
  obtain ⟨p_Opts_a, p_Opts_l, p_Opts_c, p_Opts, e_p_Opts, lc_p_Opts, cm_p_Opts, S_p_Opts, w_p_Opts⟩ := f_p9.ints Try.underlying23 Try.underlying5 (by kernel_rfl); cases e_p_Opts
  obtain ⟨p_Body_a, p_Body_l, p_Body_c, p_Body, e_p_Body, lc_p_Body, cm_p_Body, S_p_Body, w_p_Body⟩ := f_p10.ints Try.underlying23 Try.underlying5 (by kernel_rfl); cases e_p_Body
  have f_cuts := a1.slice Try.underlying23
  obtain ⟨cuts_a, cuts_l, cuts_c, cuts, e_cuts, lc_cuts, cm_cuts, S_cuts, w_cuts⟩ := f_cuts.ints Try.underlying23 Try.underlying5 (by kernel_rfl); cases e_cuts
  have f_order := a2.slice Try.underlying23
  obtain ⟨order_a, order_l, order_c, order, e_order, lc_order, cm_order, S_order, w_order⟩ := f_order.ints Try.underlying23 Try.underlying5 (by kernel_rfl); cases e_order
  have hP : IpAt W (Ip.mk p_TOS p_ID p_DF false 0 p_TTL p_Proto p_Src p_Dst p_Opts_l p_Opts p_Body_l p_Body) p_Opts_a p_Opts_c p_Body_a p_Body_c := ⟨⟨S_p_Opts, fun i hi => bounds_u8 (w_p_Opts i hi), Cells.nil_slice Try.underlying23 f_p9, lc_p_Opts, cm_p_Opts⟩, ⟨S_p_Body, fun i hi => bounds_u8 (w_p_Body i hi), Cells.nil_slice Try.underlying23 f_p10, lc_p_Body, cm_p_Body⟩, bounds_u32 w_p_Src, bounds_u32 w_p_Dst⟩
  exact reasmWhole_walk p_TOS p_ID p_DF p_MF p_Off p_TTL p_Proto p_Src p_Dst p_Opts_l p_Opts p_Body_l p_Body p_Opts_a p_Opts_c p_Body_c cuts_a order_a cuts_l cuts_c order_l order_c cuts order W p_Body_a hP S_cuts (fun i hi => bounds_u8 (w_cuts i hi)) S_order (fun i hi => bounds_u8 (w_order i hi)) (Nat.le_trans (Nat.le_trans lc_cuts cm_cuts) (by decide)) (Nat.le_trans (Nat.le_trans lc_order cm_order) (by decide))
set_option maxRecDepth 100000 in
theorem reasmWhole_lifted (os : Os) (started : os.Started) (H : Type) (enc : TypeId × Value → H) :
    ReturnsInHanded {} Try.checked os 3 .any (Rows.reasmWholeSpec.pre6 enc Try.prog Try.f3 Rows.reasmWholeRow.domain false) (Rows.reasmWholeSpec.post enc Try.prog Try.f3 false true false false) := by
  refine returnsInHanded_of_change (C := Try.checked) (by kernel_rfl) started (by kernel_rfl) Try.func3
    (ChangeSpec.witness6 (enc := enc) (C := Try.checked) false ⟨#[], #[.agg #[.int .i64 0, .int .i64 0, .bool false, .bool false, .int .i64 0, .int .i64 0, .int .i64 0, .int .u32 0, .int .u32 0, .slice none 0 0, .slice none 0 0], .slice none 0 0, .slice none 0 0], []⟩ 8 (by kernel_rfl) (by kernel_rfl) (by kernel_rfl) (by kernel_rfl)) ?_
  intro W base args ds gs before hval hW _ _
  obtain ⟨p, q, hA, _, _, _, _⟩ := id hW
  have hargs : Args Try.prog W base Try.f3.params.toList args.toList := args_of (fun j t v h1 h2 => hval j t v (by simpa using h1) (by simpa using h2)) hA
  rw [Try.params3] at hargs
  obtain ⟨v0, l0, e0, a0, r0⟩ := args_cons hargs
  obtain ⟨v1, l1, e1, a1, r1⟩ := args_cons r0
  obtain ⟨v2, l2, e2, a2, r2⟩ := args_cons r1
  have hn := args_nil r2
  have he : args = #[v0, v1, v2] := by
    apply Array.ext'
    simp only [e0, e1, e2, hn]
  subst he
  exact (reasmWhole_core W base v0 v1 v2 a0 a1 a2).mono fun e W' ⟨he, hj⟩ => ⟨_, he, post_true (tb := 4) (by kernel_rfl) (by kernel_rfl) rfl (by kernel_rfl) rfl hW (fun hg hl => by
    subst hg
    match ds, hl with
    | [_, _, _], _ => exact ⟨rfl, rfl, rfl⟩) hj⟩
theorem reasmWhole_holds : Rows.ReasmWholeSaid :=
  OpenClaim.holds_of_wide 3 Try.f3 rfl rfl rfl rfl rfl rfl rfl ⟨rfl, rfl, rfl, rfl, rfl⟩ rfl rfl rfl rfl rfl (by kernel_rfl) Try.func3 (by kernel_rfl)
    (of_decide_eq_true (by kernel_rfl)) (by unfold Func.isWrapper; rw [if_neg (of_decide_eq_false (by kernel_rfl))]; exact ⟨rfl, rfl⟩)
    (fun os started H enc _ => reasmWhole_lifted os started H enc)

end Go.Proofs.Ytgjppmkadmfibaa
