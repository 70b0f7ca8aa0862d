/- The law ChalRight: any segment is judged, any acknowledgement may be or not, any budget is right or not, and spent, as the document says. -/
import Derived.Test.YticijhpgapcecaaChalAwake
import Derived.Test.YticijhpgapcecaaChalRef
import Derived.Lib.Hide
set_option linter.unusedVariables false
set_option linter.unusedSimpArgs false
namespace Go.Proofs.Yticijhpgapcecaa
open Go.RowKit
/-- Short reads lengths alone: it returns some bool. -/
def SomeBool (w : World) (e : Ending) (w' : World) : Prop := ∃ b, e = .returned (.bool b) ∧ Junk w w'
set_option maxHeartbeats 1000000 in
theorem short_any (c0 c1 c2 c3 c4 c5 c6 : Value) (oa ba : Option Addr) (ol oc bl bc : Nat) (w : World) (ho : ol ≤ 9223372036854775807) (hb : bl ≤ 9223372036854775807)
    (rows : Nat → List Value) (hS : SlAt w oa ol 2 rows) (hd : ∀ i, i < ol → ∃ (k : Value) (x : Option Addr) (l c : Nat), rows i = [k, .slice x l c] ∧ l ≤ 9223372036854775807) :
    Calls Try.prog 19 #[.agg #[c0, c1, c2, c3, c4, c5, c6, .slice oa ol oc, .slice ba bl bc]] w (SomeBool w) := by
  have Hd := Lib.hid hd
  clear hd
  go_enter Try.func19, Try.ntmps19
  go_wp2
  · go_ret
    exact ⟨_, rfl, by (repeat (first | exact Junk.refl _ | apply Junk.alloc | apply Junk.junk | apply Junk.drew | apply Junk.drewN))⟩
  · go_loop [3] (fun i => ∃ k : Nat, k ≤ ol ∧ i = .int .i64 k) (fun i => ol - (intOf i).toNat)
    case atStart => exact ⟨0, Nat.zero_le _, rfl⟩
    case round =>
      obtain ⟨k, hk, rfl⟩ := hrel
      by_cases hlt : k < ol
      · obtain ⟨b, off, rfl, hblk, hc⟩ := hS k hlt
        obtain ⟨kd, x, l, c, hr, hl⟩ := Hd.out k hlt
        have hcell := hc 1 (.slice x l c) (by rw [hr]; rfl)
        clear hc hr
        go_wp2
        · go_ret
          exact ⟨_, rfl, by (repeat (first | exact Junk.refl _ | apply Junk.alloc | apply Junk.junk | apply Junk.drew | apply Junk.drewN))⟩
        · go_round
          case rel => exact ⟨k + 1, by omega, by go_num⟩
          case measure => simp [intOf]; omega
      · go_wp2
        go_ret
        exact ⟨_, rfl, by (repeat (first | exact Junk.refl _ | apply Junk.alloc | apply Junk.junk | apply Junk.drew | apply Junk.drewN))⟩
  · go_ret
    exact ⟨_, rfl, by (repeat (first | exact Junk.refl _ | apply Junk.alloc | apply Junk.junk | apply Junk.drew | apply Junk.drewN))⟩

set_option maxHeartbeats 1000000 in
theorem chalRight_walk (c0 c1 c3 c5 c6 : Value) (sq flags a b c win p l at' now : Int) (oa ba : Option Addr) (ol oc bl bc : Nat) (w : World) (ho : ol ≤ 9223372036854775807) (hb : bl ≤ 9223372036854775807)
    (rows : Nat → List Value) (hS : SlAt w oa ol 2 rows) (hd : ∀ i, i < ol → ∃ (k : Value) (x : Option Addr) (l c : Nat), rows i = [k, .slice x l c] ∧ l ≤ 9223372036854775807)
    (hs : 0 ≤ sq ∧ sq ≤ 4294967295) (ha : 0 ≤ a ∧ a ≤ 4294967295) (hb2 : 0 ≤ b ∧ b ≤ 4294967295) (hc : 0 ≤ c ∧ c ≤ 4294967295) :
    Calls Try.prog 5 #[.agg #[c0, c1, .int .u32 sq, c3, .int .i64 flags, c5, c6, .slice oa ol oc, .slice ba bl bc], .int .u32 a, .int .u32 b, .int .u32 c, .int .i64 win, .agg #[.int .i64 p, .int .i64 l, .int .i64 at'], .int .i64 now] w fun e w' => e = .returned (.bool true) ∧ Junk w w' := by
  have Hd := Lib.hid hd
  clear hd
  go_enter Try.func5, Try.ntmps5
  go_wp2_with (first | (go_at_call 14; refine (awake20_any _).mono ?_; rintro e w' ⟨rfl, ⟨osj, dj, rfl⟩⟩) | (go_at_call 19; refine (short_any _ _ _ _ _ _ _ _ _ _ _ _ _ _ (by omega) (by omega) rows (hS.on (by (repeat (first | exact Junk.refl _ | apply Junk.alloc | apply Junk.junk | apply Junk.drew | apply Junk.drewN)))) Hd.out).mono ?_; rintro e w' ⟨sb, rfl, ⟨osj, dj, rfl⟩⟩) | (go_at_call 15; refine (spend_any _ _ _ _ _).mono ?_; rintro e w' ⟨rfl, ⟨osj, dj, rfl⟩⟩) | (go_at_call 20; refine (rspend_any _ _ _ _ _).mono ?_; rintro e w' ⟨rfl, ⟨osj, dj, rfl⟩⟩))
  · go_ret
    exact ⟨ret_bool rfl, by (repeat (first | exact Junk.refl _ | apply Junk.alloc | apply Junk.junk | apply Junk.drew | apply Junk.drewN))⟩
  · refine wp_region_junk (by kernel_rfl) (by kernel_rfl) ?_; (repeat (refine wpQuiet_step (fun K hK => ?_); go_simp; first | (refine hK _ ?_; clear hK K) | (apply Exists.intro; refine ⟨fun _ => ?_, hK _ ?_⟩; (first | (go_at_call 18; exact Calls.junk_of (judge_any _ _ _ _ _ _ _ _ _ _ _ _)) | (go_at_call 21; exact Calls.junk_of (rjudge_any _ _ _ _ _ _ _ _ _ _ _ _ hs ha)) | (go_at_call 22; exact Calls.junk_of (Calls.junk_of_same (may_any _ _ _ _ _))) | (go_at_call 23; exact Calls.junk_of (Calls.junk_of_same (rmay_any _ _ _ _ _ ha hb2 hc))) | (go_at_call 16; exact Calls.junk_of (right_any _ _ _ _)) | (go_at_call 24; exact Calls.junk_of (rright_any _ _ _ _))); clear hK K))); refine wpQuiet_nil ?_; rintro _ ⟨⟨osq, dq⟩, rfl⟩
    go_wp2
    go_ret
    exact ⟨ret_bool rfl, by (repeat (first | exact Junk.refl _ | apply Junk.alloc | apply Junk.junk | apply Junk.drew | apply Junk.drewN))⟩

theorem chalRight_core (W : World) (base : Nat) (v0 v1 v2 v3 v4 v5 v6 : Value) (a0 : Arg Try.prog W base 34 v0) (a1 : Arg Try.prog W base 30 v1) (a2 : Arg Try.prog W base 30 v2) (a3 : Arg Try.prog W base 30 v3) (a4 : Arg Try.prog W base 3 v4) (a5 : Arg Try.prog W base 25 v5) (a6 : Arg Try.prog W base 3 v6) :
    Calls Try.prog 5 #[v0, v1, v2, v3, v4, v5, v6] W fun e W' => e = .returned (.bool true) ∧ Junk W W' := by
  obtain ⟨cs_t, rfl, h_t⟩ := a0.struct Try.underlying34
  obtain ⟨hl_t, hf_t⟩ := h_t.fields1 Try.underlying34 (by kernel_rfl) (n := 9) (by kernel_rfl)
  obtain ⟨t_Sport, lt0, e_t0⟩ : ∃ x l, cs_t = x :: l := by cases cs_t with | nil => simp at hl_t | cons x l => exact ⟨x, l, rfl⟩
  subst e_t0
  obtain ⟨t_Dport, lt1, e_t1⟩ : ∃ x l, lt0 = x :: l := by cases lt0 with | nil => simp at hl_t | cons x l => exact ⟨x, l, rfl⟩
  subst e_t1
  obtain ⟨t_Seq, lt2, e_t2⟩ : ∃ x l, lt1 = x :: l := by cases lt1 with | nil => simp at hl_t | cons x l => exact ⟨x, l, rfl⟩
  subst e_t2
  obtain ⟨t_Ack, lt3, e_t3⟩ : ∃ x l, lt2 = x :: l := by cases lt2 with | nil => simp at hl_t | cons x l => exact ⟨x, l, rfl⟩
  subst e_t3
  obtain ⟨t_Flags, lt4, e_t4⟩ : ∃ x l, lt3 = x :: l := by cases lt3 with | nil => simp at hl_t | cons x l => exact ⟨x, l, rfl⟩
  subst e_t4
  obtain ⟨t_Win, lt5, e_t5⟩ : ∃ x l, lt4 = x :: l := by cases lt4 with | nil => simp at hl_t | cons x l => exact ⟨x, l, rfl⟩
  subst e_t5
  obtain ⟨t_Urg, lt6, e_t6⟩ : ∃ x l, lt5 = x :: l := by cases lt5 with | nil => simp at hl_t | cons x l => exact ⟨x, l, rfl⟩
  subst e_t6
  obtain ⟨t_Opts, lt7, e_t7⟩ : ∃ x l, lt6 = x :: l := by cases lt6 with | nil => simp at hl_t | cons x l => exact ⟨x, l, rfl⟩
  subst e_t7
  obtain ⟨t_Body, lt8, e_t8⟩ : ∃ x l, lt7 = x :: l := by cases lt7 with | nil => simp at hl_t | cons x l => exact ⟨x, l, rfl⟩
  subst e_t8
  obtain rfl : lt8 = [] := by simpa using hl_t
  have f_t0 : Cells Try.prog W 3 [t_Sport] := hf_t 0 _ rfl
  have f_t1 : Cells Try.prog W 3 [t_Dport] := hf_t 1 _ rfl
  have f_t2 : Cells Try.prog W 30 [t_Seq] := hf_t 2 _ rfl
  have f_t3 : Cells Try.prog W 30 [t_Ack] := hf_t 3 _ rfl
  have f_t4 : Cells Try.prog W 3 [t_Flags] := hf_t 4 _ rfl
  have f_t5 : Cells Try.prog W 3 [t_Win] := hf_t 5 _ rfl
  have f_t6 : Cells Try.prog W 3 [t_Urg] := hf_t 6 _ rfl
  have f_t7 : Cells Try.prog W 32 [t_Opts] := hf_t 7 _ rfl
  have f_t8 : Cells Try.prog W 22 [t_Body] := hf_t 8 _ rfl
  clear hf_t hl_t
  obtain ⟨t_Sport, e_t_Sport, w_t_Sport⟩ := f_t0.int Try.underlying3; cases e_t_Sport
  obtain ⟨t_Dport, e_t_Dport, w_t_Dport⟩ := f_t1.int Try.underlying3; cases e_t_Dport
  obtain ⟨t_Seq, e_t_Seq, w_t_Seq⟩ := f_t2.int Try.underlying30; cases e_t_Seq
  obtain ⟨t_Ack, e_t_Ack, w_t_Ack⟩ := f_t3.int Try.underlying30; cases e_t_Ack
  obtain ⟨t_Flags, e_t_Flags, w_t_Flags⟩ := f_t4.int Try.underlying3; cases e_t_Flags
  obtain ⟨t_Win, e_t_Win, w_t_Win⟩ := f_t5.int Try.underlying3; cases e_t_Win
  obtain ⟨t_Urg, e_t_Urg, w_t_Urg⟩ := f_t6.int Try.underlying3; cases e_t_Urg
  obtain ⟨t_Opts_a, t_Opts_l, t_Opts_c, t_Opts, e_t_Opts, lc_t_Opts, cm_t_Opts, S_t_Opts, r_t_Opts⟩ := f_t7.slice Try.underlying32 (Nat.lt_of_lt_of_eq (by decide : 0 < 2) (by kernel_rfl)); cases e_t_Opts
  obtain ⟨t_Body_a, t_Body_l, t_Body_c, t_Body, e_t_Body, lc_t_Body, cm_t_Body, S_t_Body, w_t_Body⟩ := f_t8.ints Try.underlying22 Try.underlying5 (by kernel_rfl); cases e_t_Body
  obtain ⟨a, rfl, w_a⟩ := a1.int Try.underlying30
  obtain ⟨b, rfl, w_b⟩ := a2.int Try.underlying30
  obtain ⟨c, rfl, w_c⟩ := a3.int Try.underlying30
  obtain ⟨win, rfl, w_win⟩ := a4.int Try.underlying3
  obtain ⟨cs_x, rfl, h_x⟩ := a5.struct Try.underlying25
  obtain ⟨hl_x, hf_x⟩ := h_x.fields1 Try.underlying25 (by kernel_rfl) (n := 3) (by kernel_rfl)
  obtain ⟨x_Per, lx0, e_x0⟩ : ∃ x l, cs_x = x :: l := by cases cs_x with | nil => simp at hl_x | cons x l => exact ⟨x, l, rfl⟩
  subst e_x0
  obtain ⟨x_Left, lx1, e_x1⟩ : ∃ x l, lx0 = x :: l := by cases lx0 with | nil => simp at hl_x | cons x l => exact ⟨x, l, rfl⟩
  subst e_x1
  obtain ⟨x_At, lx2, e_x2⟩ : ∃ x l, lx1 = x :: l := by cases lx1 with | nil => simp at hl_x | cons x l => exact ⟨x, l, rfl⟩
  subst e_x2
  obtain rfl : lx2 = [] := by simpa using hl_x
  have f_x0 : Cells Try.prog W 3 [x_Per] := hf_x 0 _ rfl
  have f_x1 : Cells Try.prog W 3 [x_Left] := hf_x 1 _ rfl
  have f_x2 : Cells Try.prog W 3 [x_At] := hf_x 2 _ rfl
  clear hf_x hl_x
  obtain ⟨x_Per, e_x_Per, w_x_Per⟩ := f_x0.int Try.underlying3; cases e_x_Per
  obtain ⟨x_Left, e_x_Left, w_x_Left⟩ := f_x1.int Try.underlying3; cases e_x_Left
  obtain ⟨x_At, e_x_At, w_x_At⟩ := f_x2.int Try.underlying3; cases e_x_At
  obtain ⟨now, rfl, w_now⟩ := a6.int Try.underlying3
  have hlm : maxLen = 9223372036854775807 := rfl
  refine chalRight_walk _ _ _ _ _ _ _ a b c win _ _ _ now _ _ _ _ _ _ W (by omega) (by omega) t_Opts S_t_Opts (fun i hi => ?_) (bounds_u32 w_t_Seq) (bounds_u32 w_a) (bounds_u32 w_b) (bounds_u32 w_c)
  obtain ⟨hl, hcs⟩ := r_t_Opts i hi
  obtain ⟨cso, e_cso⟩ : ∃ c, t_Opts i = c := ⟨_, rfl⟩
  rw [e_cso] at hcs ⊢
  clear e_cso hl
  obtain ⟨hl_o, hf_o⟩ := hcs.fields1 Try.underlying78 (by kernel_rfl) (n := 2) (by kernel_rfl)
  obtain ⟨o_Kind, lo0, e_o0⟩ : ∃ x l, cso = x :: l := by cases cso with | nil => simp at hl_o | cons x l => exact ⟨x, l, rfl⟩
  subst e_o0
  obtain ⟨o_Data, lo1, e_o1⟩ : ∃ x l, lo0 = x :: l := by cases lo0 with | nil => simp at hl_o | cons x l => exact ⟨x, l, rfl⟩
  subst e_o1
  obtain rfl : lo1 = [] := by simpa using hl_o
  have f_o0 : Cells Try.prog W 3 [o_Kind] := hf_o 0 _ rfl
  have f_o1 : Cells Try.prog W 22 [o_Data] := hf_o 1 _ rfl
  clear hf_o hl_o
  obtain ⟨o_Kind, e_o_Kind, w_o_Kind⟩ := f_o0.int Try.underlying3; cases e_o_Kind
  obtain ⟨o_Data_a, o_Data_l, o_Data_c, o_Data, e_o_Data, lc_o_Data, cm_o_Data, S_o_Data, w_o_Data⟩ := f_o1.ints Try.underlying22 Try.underlying5 (by kernel_rfl); cases e_o_Data
  exact ⟨_, _, _, _, rfl, by omega⟩
set_option maxRecDepth 100000 in
theorem chalRight_lifted (os : Os) (started : os.Started) (H : Type) (enc : TypeId × Value → H) :
    ReturnsInHanded {} Try.checked os 5 .any (Rows.chalRightSpec.pre6 enc Try.prog Try.f5 Rows.chalRightRow.domain false) (Rows.chalRightSpec.post enc Try.prog Try.f5 false true false false) := by
  refine returnsInHanded_of_change (C := Try.checked) (by kernel_rfl) started (by kernel_rfl) Try.func5
    (ChangeSpec.witness6 (enc := enc) (C := Try.checked) false ⟨#[], #[.agg #[.int .i64 0, .int .i64 0, .int .u32 0, .int .u32 0, .int .i64 0, .int .i64 0, .int .i64 0, .slice none 0 0, .slice none 0 0], .int .u32 0, .int .u32 0, .int .u32 0, .int .i64 0, .agg #[.int .i64 0, .int .i64 0, .int .i64 0], .int .i64 0], []⟩ 8 (by kernel_rfl) (by kernel_rfl) (by kernel_rfl) (by kernel_rfl)) ?_
  intro W base args ds gs before hval hW _ _
  obtain ⟨p, q, hA, _, _, _, _⟩ := id hW
  have hargs : Args Try.prog W base Try.f5.params.toList args.toList := args_of (fun j t v h1 h2 => hval j t v (by simpa using h1) (by simpa using h2)) hA
  rw [Try.params5] at hargs
  obtain ⟨v0, l0, e0, a0, r0⟩ := args_cons hargs
  obtain ⟨v1, l1, e1, a1, r1⟩ := args_cons r0
  obtain ⟨v2, l2, e2, a2, r2⟩ := args_cons r1
  obtain ⟨v3, l3, e3, a3, r3⟩ := args_cons r2
  obtain ⟨v4, l4, e4, a4, r4⟩ := args_cons r3
  obtain ⟨v5, l5, e5, a5, r5⟩ := args_cons r4
  obtain ⟨v6, l6, e6, a6, r6⟩ := args_cons r5
  have hn := args_nil r6
  have he : args = #[v0, v1, v2, v3, v4, v5, v6] := by
    apply Array.ext'
    simp only [e0, e1, e2, e3, e4, e5, e6, hn]
  subst he
  exact (chalRight_core W base v0 v1 v2 v3 v4 v5 v6 a0 a1 a2 a3 a4 a5 a6).mono fun e W' ⟨he, hj⟩ => ⟨_, he, post_true (tb := 4) (by kernel_rfl) (by kernel_rfl) rfl (by kernel_rfl) rfl hW (fun hg hl => by
    subst hg
    match ds, hl with
    | [_, _, _, _, _, _, _], _ => exact ⟨rfl, rfl, rfl⟩) hj⟩
theorem chalRight_holds : Rows.ChalRightSaid :=
  OpenClaim.holds_of_wide 5 Try.f5 rfl rfl rfl rfl rfl rfl rfl ⟨rfl, rfl, rfl, rfl, rfl⟩ rfl rfl rfl rfl rfl (by kernel_rfl) Try.func5 (by kernel_rfl)
    (of_decide_eq_true (by kernel_rfl)) (by unfold Func.isWrapper; rw [if_neg (of_decide_eq_false (by kernel_rfl))]; exact ⟨rfl, rfl⟩)
    (fun os started H enc _ => chalRight_lifted os started H enc)

end Go.Proofs.Yticijhpgapcecaa
