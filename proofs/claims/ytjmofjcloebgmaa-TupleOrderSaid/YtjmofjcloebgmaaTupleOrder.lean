/- The law TupleOrder: right tuples stand in one order. -/
import Derived.Test.YtjmofjcloebgmaaTupF
import Derived.Test.YtjmofjcloebgmaaLift2
set_option linter.unusedVariables false
set_option maxRecDepth 100000
set_option linter.unusedSimpArgs false
namespace Go.Proofs.Ytjmofjcloebgmaa
open Go.RowKit
theorem order_cases : ∀ {D X Y Z V : Bool}, (X = true → Y = false) → (X = true → Z = true → V = true) → (D = true → X = false ∧ Y = false) → (D = false → X = true ∨ Y = true) →
    (D = true ∧ X = false ∧ Y = false) ∨ (D = false ∧ X = false ∧ Y = true) ∨ (D = false ∧ X = true ∧ Y = false ∧ Z = false) ∨ (D = false ∧ X = true ∧ Y = false ∧ Z = true ∧ V = true) := by
  decide
set_option maxHeartbeats 8000000 in
theorem tupleOrder_walk (a b c : Tup) (w : World) (ha : TupW a) (hb : TupW b) (hc : TupW c) :
    Calls Try.prog 11 #[.agg #[.int .i64 a.proto, .int .u32 a.src, .int .i64 a.sport, .int .u32 a.dst, .int .i64 a.dport], .agg #[.int .i64 b.proto, .int .u32 b.src, .int .i64 b.sport, .int .u32 b.dst, .int .i64 b.dport], .agg #[.int .i64 c.proto, .int .u32 c.src, .int .i64 c.sport, .int .u32 c.dst, .int .i64 c.dport]] w fun e w' => e = .returned (.bool true) ∧ Junk w w' := by
  have HRA0 := fun w1 => tup_right_any a w1
  have HRB0 := fun w1 => tup_right_any b w1
  have HRC0 := fun w1 => tup_right_any c w1
  cases ra : tupRight a with
  | false =>
    rw [ra] at HRA0
    have HRA := Lib.hid HRA0
    clear HRA0 HRB0 HRC0 ra
    go_enter Try.func11, Try.ntmps11
    go_wp2_with (first | (go_at_call 29; refine (awake09_any _).mono ?_; rintro e w' ⟨rfl, ⟨osj, dj, rfl⟩⟩) | (go_at_call 31; (with_reducible refine (HRA.out _).mono ?_); rintro e w' ⟨rfl, ⟨osj, dj, rfl⟩⟩))
    go_ret
    exact ⟨ret_bool rfl, by ((try simp only [World.junk_junk, Array.append_assoc]); (repeat (first | with_reducible exact Junk.refl _ | with_reducible exact Junk.app _ _ _ _ _ | with_reducible exact Junk.app2 _ _ _ _ _ _ | with_reducible exact Junk.app3 _ _ _ _ _ _ _ | with_reducible exact Junk.app4 _ _ _ _ _ _ _ _ | with_reducible exact Junk.app5 _ _ _ _ _ _ _ _ _ | with_reducible apply Junk.alloc | with_reducible apply Junk.junk | with_reducible apply Junk.drew | with_reducible apply Junk.drewN)))⟩
  | true =>
  cases rb : tupRight b with
  | false =>
    rw [ra] at HRA0
    rw [rb] at HRB0
    have HRA := Lib.hid HRA0
    have HRB := Lib.hid HRB0
    clear HRA0 HRB0 HRC0 ra rb
    go_enter Try.func11, Try.ntmps11
    go_wp2_with (first | (go_at_call 29; refine (awake09_any _).mono ?_; rintro e w' ⟨rfl, ⟨osj, dj, rfl⟩⟩) | (go_at_call 31; (with_reducible refine (HRA.out _).mono ?_); rintro e w' ⟨rfl, ⟨osj, dj, rfl⟩⟩) | (go_at_call 31; (with_reducible refine (HRB.out _).mono ?_); rintro e w' ⟨rfl, ⟨osj, dj, rfl⟩⟩))
    go_ret
    exact ⟨ret_bool rfl, by ((try simp only [World.junk_junk, Array.append_assoc]); (repeat (first | with_reducible exact Junk.refl _ | with_reducible exact Junk.app _ _ _ _ _ | with_reducible exact Junk.app2 _ _ _ _ _ _ | with_reducible exact Junk.app3 _ _ _ _ _ _ _ | with_reducible exact Junk.app4 _ _ _ _ _ _ _ _ | with_reducible exact Junk.app5 _ _ _ _ _ _ _ _ _ | with_reducible apply Junk.alloc | with_reducible apply Junk.junk | with_reducible apply Junk.drew | with_reducible apply Junk.drewN)))⟩
  | true =>
  cases rc : tupRight c with
  | false =>
    rw [ra] at HRA0
    rw [rb] at HRB0
    rw [rc] at HRC0
    have HRA := Lib.hid HRA0
    have HRB := Lib.hid HRB0
    have HRC := Lib.hid HRC0
    clear HRA0 HRB0 HRC0 ra rb rc
    go_enter Try.func11, Try.ntmps11
    go_wp2_with (first | (go_at_call 29; refine (awake09_any _).mono ?_; rintro e w' ⟨rfl, ⟨osj, dj, rfl⟩⟩) | (go_at_call 31; (with_reducible refine (HRA.out _).mono ?_); rintro e w' ⟨rfl, ⟨osj, dj, rfl⟩⟩) | (go_at_call 31; (with_reducible refine (HRB.out _).mono ?_); rintro e w' ⟨rfl, ⟨osj, dj, rfl⟩⟩) | (go_at_call 31; (with_reducible refine (HRC.out _).mono ?_); rintro e w' ⟨rfl, ⟨osj, dj, rfl⟩⟩))
    go_ret
    exact ⟨ret_bool rfl, by ((try simp only [World.junk_junk, Array.append_assoc]); (repeat (first | with_reducible exact Junk.refl _ | with_reducible exact Junk.app _ _ _ _ _ | with_reducible exact Junk.app2 _ _ _ _ _ _ | with_reducible exact Junk.app3 _ _ _ _ _ _ _ | with_reducible exact Junk.app4 _ _ _ _ _ _ _ _ | with_reducible exact Junk.app5 _ _ _ _ _ _ _ _ _ | with_reducible apply Junk.alloc | with_reducible apply Junk.junk | with_reducible apply Junk.drew | with_reducible apply Junk.drewN)))⟩
  | true =>
  have hqab := fun w => tup_neq a b w
  have HAB0 := fun w1 => tup_less_any a b w1 ha hb
  have HBA0 := fun w1 => tup_less_any b a w1 hb ha
  have HBC0 := fun w1 => tup_less_any b c w1 hb hc
  have HAC0 := fun w1 => tup_less_any a c w1 ha hc
  have HXY : tupLess a b = true → tupLess b a = false := lexL_asym _ _
  have HTR : tupLess a b = true → tupLess b c = true → tupLess a c = true := lexL_trans _ _ _
  have HEQ : a = b → tupLess a b = false ∧ tupLess b a = false := by rintro rfl; exact ⟨lexL_irr _, lexL_irr _⟩
  have HNE : a ≠ b → tupLess a b = true ∨ tupLess b a = true := fun h => lexL_total _ _ rfl (fun hc => h (nums_inj ra rb hc))
  rw [ra] at HRA0
  rw [rb] at HRB0
  rw [rc] at HRC0
  have HRA := Lib.hid HRA0
  have HRB := Lib.hid HRB0
  have HRC := Lib.hid HRC0
  clear HRA0 HRB0 HRC0 ra rb rc
  have hD : ∃ D, decide (a = b) = D ∧ (D = true → tupLess a b = false ∧ tupLess b a = false) ∧ (D = false → tupLess a b = true ∨ tupLess b a = true) := ⟨_, rfl, fun h => HEQ (of_decide_eq_true h), fun h => HNE (of_decide_eq_false h)⟩
  obtain ⟨D, hD, HEQ', HNE'⟩ := hD
  rw [hD] at hqab
  clear hD HEQ HNE
  have hg := tup_guard
  generalize tupLess a b = X at HAB0 HXY HTR HEQ' HNE'
  generalize tupLess b a = Y at HBA0 HXY HEQ' HNE'
  generalize tupLess b c = Z at HBC0 HTR
  generalize tupLess a c = V at HAC0 HTR
  have HAB := Lib.hid HAB0
  have HBA := Lib.hid HBA0
  have HBC := Lib.hid HBC0
  have HAC := Lib.hid HAC0
  clear HAB0 HBA0 HBC0 HAC0
  have key : (D = true ∧ X = false ∧ Y = false) ∨ (D = false ∧ X = false ∧ Y = true) ∨ (D = false ∧ X = true ∧ Y = false ∧ Z = false) ∨ (D = false ∧ X = true ∧ Y = false ∧ Z = true ∧ V = true) := order_cases HXY HTR HEQ' HNE'
  clear HXY HTR HEQ' HNE'
  rcases key with ⟨rfl, rfl, rfl⟩ | ⟨rfl, rfl, rfl⟩ | ⟨rfl, rfl, rfl, rfl⟩ | ⟨rfl, rfl, rfl, rfl, rfl⟩
  all_goals
    have hq : ∀ w, (binOp .neq 58 (.agg #[.int .i64 a.proto, .int .u32 a.src, .int .i64 a.sport, .int .u32 a.dst, .int .i64 a.dport]) (.agg #[.int .i64 b.proto, .int .u32 b.src, .int .i64 b.sport, .int .u32 b.dst, .int .i64 b.dport])).run Try.prog w = .ok (.bool _) w := hqab
    clear hqab
    simp only [Bool.not_true, Bool.not_false] at hq
    go_enter Try.func11, Try.ntmps11
    go_wp2_with (first | (go_at_call 29; refine (awake09_any _).mono ?_; rintro e w' ⟨rfl, ⟨osj, dj, rfl⟩⟩) | (go_at_call 31; (with_reducible refine (HRA.out _).mono ?_); rintro e w' ⟨rfl, ⟨osj, dj, rfl⟩⟩) | (go_at_call 31; (with_reducible refine (HRB.out _).mono ?_); rintro e w' ⟨rfl, ⟨osj, dj, rfl⟩⟩) | (go_at_call 31; (with_reducible refine (HRC.out _).mono ?_); rintro e w' ⟨rfl, ⟨osj, dj, rfl⟩⟩))
    refine wp_region_junk (by kernel_rfl) (by kernel_rfl) ?_; (repeat (go_big_quiet_step (first | (go_at_call 40; first | with_reducible exact Calls.junk_of5 (HAB.out _) | with_reducible exact Calls.junk_of4 (HAB.out _) | with_reducible exact Calls.junk_of3 (HAB.out _) | with_reducible exact Calls.junk_of2 (HAB.out _) | exact Calls.junk_of (HAB.out _)) | (go_at_call 40; first | with_reducible exact Calls.junk_of5 (HBA.out _) | with_reducible exact Calls.junk_of4 (HBA.out _) | with_reducible exact Calls.junk_of3 (HBA.out _) | with_reducible exact Calls.junk_of2 (HBA.out _) | exact Calls.junk_of (HBA.out _))))); refine wpQuiet_nil ?_; rintro _ ⟨⟨osq, dq⟩, rfl⟩
    go_wp2_with (first | (go_at_call 40; (with_reducible refine (HBC.out _).mono ?_); rintro e w' ⟨rfl, ⟨osj, dj, rfl⟩⟩) | (go_at_call 40; (with_reducible refine (HAC.out _).mono ?_); rintro e w' ⟨rfl, ⟨osj, dj, rfl⟩⟩))
    go_ret
    exact ⟨ret_bool rfl, by ((try simp only [World.junk_junk, Array.append_assoc]); (repeat (first | with_reducible exact Junk.refl _ | with_reducible exact Junk.app _ _ _ _ _ | with_reducible exact Junk.app2 _ _ _ _ _ _ | with_reducible exact Junk.app3 _ _ _ _ _ _ _ | with_reducible exact Junk.app4 _ _ _ _ _ _ _ _ | with_reducible exact Junk.app5 _ _ _ _ _ _ _ _ _ | with_reducible apply Junk.alloc | with_reducible apply Junk.junk | with_reducible apply Junk.drew | with_reducible apply Junk.drewN)))⟩
theorem tupleOrder_core (W : World) (base : Nat) (v0 v1 v2 : Value) (a0 : Arg Try.prog W base 58 v0) (a1 : Arg Try.prog W base 58 v1) (a2 : Arg Try.prog W base 58 v2) :
    Calls Try.prog 11 #[v0, v1, v2] W fun e W' => e = .returned (.bool true) ∧ Junk W W' := by
  obtain ⟨cs_a, rfl, h_a⟩ := a0.struct Try.underlying58
  obtain ⟨hl_a, hf_a⟩ := h_a.fields1 Try.underlying58 (by kernel_rfl) (n := 5) (by kernel_rfl)
  obtain ⟨a_Proto, la0, e_a0⟩ : ∃ x l, cs_a = x :: l := by cases cs_a with | nil => simp at hl_a | cons x l => exact ⟨x, l, rfl⟩
  subst e_a0
  obtain ⟨a_Src, la1, e_a1⟩ : ∃ x l, la0 = x :: l := by cases la0 with | nil => simp at hl_a | cons x l => exact ⟨x, l, rfl⟩
  subst e_a1
  obtain ⟨a_Sport, la2, e_a2⟩ : ∃ x l, la1 = x :: l := by cases la1 with | nil => simp at hl_a | cons x l => exact ⟨x, l, rfl⟩
  subst e_a2
  obtain ⟨a_Dst, la3, e_a3⟩ : ∃ x l, la2 = x :: l := by cases la2 with | nil => simp at hl_a | cons x l => exact ⟨x, l, rfl⟩
  subst e_a3
  obtain ⟨a_Dport, la4, e_a4⟩ : ∃ x l, la3 = x :: l := by cases la3 with | nil => simp at hl_a | cons x l => exact ⟨x, l, rfl⟩
  subst e_a4
  obtain rfl : la4 = [] := by simpa using hl_a
  have f_a0 : Cells Try.prog W 3 [a_Proto] := hf_a 0 _ rfl
  have f_a1 : Cells Try.prog W 22 [a_Src] := hf_a 1 _ rfl
  have f_a2 : Cells Try.prog W 3 [a_Sport] := hf_a 2 _ rfl
  have f_a3 : Cells Try.prog W 22 [a_Dst] := hf_a 3 _ rfl
  have f_a4 : Cells Try.prog W 3 [a_Dport] := hf_a 4 _ rfl
  clear hf_a hl_a
  obtain ⟨a_Proto, e_a_Proto, w_a_Proto⟩ := f_a0.int Try.underlying3; cases e_a_Proto
  obtain ⟨a_Src, e_a_Src, w_a_Src⟩ := f_a1.int Try.underlying22; cases e_a_Src
  obtain ⟨a_Sport, e_a_Sport, w_a_Sport⟩ := f_a2.int Try.underlying3; cases e_a_Sport
  obtain ⟨a_Dst, e_a_Dst, w_a_Dst⟩ := f_a3.int Try.underlying22; cases e_a_Dst
  obtain ⟨a_Dport, e_a_Dport, w_a_Dport⟩ := f_a4.int Try.underlying3; cases e_a_Dport
  obtain ⟨cs_b, rfl, h_b⟩ := a1.struct Try.underlying58
  obtain ⟨hl_b, hf_b⟩ := h_b.fields1 Try.underlying58 (by kernel_rfl) (n := 5) (by kernel_rfl)
  obtain ⟨b_Proto, lb0, e_b0⟩ : ∃ x l, cs_b = x :: l := by cases cs_b with | nil => simp at hl_b | cons x l => exact ⟨x, l, rfl⟩
  subst e_b0
  obtain ⟨b_Src, lb1, e_b1⟩ : ∃ x l, lb0 = x :: l := by cases lb0 with | nil => simp at hl_b | cons x l => exact ⟨x, l, rfl⟩
  subst e_b1
  obtain ⟨b_Sport, lb2, e_b2⟩ : ∃ x l, lb1 = x :: l := by cases lb1 with | nil => simp at hl_b | cons x l => exact ⟨x, l, rfl⟩
  subst e_b2
  obtain ⟨b_Dst, lb3, e_b3⟩ : ∃ x l, lb2 = x :: l := by cases lb2 with | nil => simp at hl_b | cons x l => exact ⟨x, l, rfl⟩
  subst e_b3
  obtain ⟨b_Dport, lb4, e_b4⟩ : ∃ x l, lb3 = x :: l := by cases lb3 with | nil => simp at hl_b | cons x l => exact ⟨x, l, rfl⟩
  subst e_b4
  obtain rfl : lb4 = [] := by simpa using hl_b
  have f_b0 : Cells Try.prog W 3 [b_Proto] := hf_b 0 _ rfl
  have f_b1 : Cells Try.prog W 22 [b_Src] := hf_b 1 _ rfl
  have f_b2 : Cells Try.prog W 3 [b_Sport] := hf_b 2 _ rfl
  have f_b3 : Cells Try.prog W 22 [b_Dst] := hf_b 3 _ rfl
  have f_b4 : Cells Try.prog W 3 [b_Dport] := hf_b 4 _ rfl
  clear hf_b hl_b
  obtain ⟨b_Proto, e_b_Proto, w_b_Proto⟩ := f_b0.int Try.underlying3; cases e_b_Proto
  obtain ⟨b_Src, e_b_Src, w_b_Src⟩ := f_b1.int Try.underlying22; cases e_b_Src
  obtain ⟨b_Sport, e_b_Sport, w_b_Sport⟩ := f_b2.int Try.underlying3; cases e_b_Sport
  obtain ⟨b_Dst, e_b_Dst, w_b_Dst⟩ := f_b3.int Try.underlying22; cases e_b_Dst
  obtain ⟨b_Dport, e_b_Dport, w_b_Dport⟩ := f_b4.int Try.underlying3; cases e_b_Dport
  obtain ⟨cs_c, rfl, h_c⟩ := a2.struct Try.underlying58
  obtain ⟨hl_c, hf_c⟩ := h_c.fields1 Try.underlying58 (by kernel_rfl) (n := 5) (by kernel_rfl)
  obtain ⟨c_Proto, lc0, e_c0⟩ : ∃ x l, cs_c = x :: l := by cases cs_c with | nil => simp at hl_c | cons x l => exact ⟨x, l, rfl⟩
  subst e_c0
  obtain ⟨c_Src, lc1, e_c1⟩ : ∃ x l, lc0 = x :: l := by cases lc0 with | nil => simp at hl_c | cons x l => exact ⟨x, l, rfl⟩
  subst e_c1
  obtain ⟨c_Sport, lc2, e_c2⟩ : ∃ x l, lc1 = x :: l := by cases lc1 with | nil => simp at hl_c | cons x l => exact ⟨x, l, rfl⟩
  subst e_c2
  obtain ⟨c_Dst, lc3, e_c3⟩ : ∃ x l, lc2 = x :: l := by cases lc2 with | nil => simp at hl_c | cons x l => exact ⟨x, l, rfl⟩
  subst e_c3
  obtain ⟨c_Dport, lc4, e_c4⟩ : ∃ x l, lc3 = x :: l := by cases lc3 with | nil => simp at hl_c | cons x l => exact ⟨x, l, rfl⟩
  subst e_c4
  obtain rfl : lc4 = [] := by simpa using hl_c
  have f_c0 : Cells Try.prog W 3 [c_Proto] := hf_c 0 _ rfl
  have f_c1 : Cells Try.prog W 22 [c_Src] := hf_c 1 _ rfl
  have f_c2 : Cells Try.prog W 3 [c_Sport] := hf_c 2 _ rfl
  have f_c3 : Cells Try.prog W 22 [c_Dst] := hf_c 3 _ rfl
  have f_c4 : Cells Try.prog W 3 [c_Dport] := hf_c 4 _ rfl
  clear hf_c hl_c
  obtain ⟨c_Proto, e_c_Proto, w_c_Proto⟩ := f_c0.int Try.underlying3; cases e_c_Proto
  obtain ⟨c_Src, e_c_Src, w_c_Src⟩ := f_c1.int Try.underlying22; cases e_c_Src
  obtain ⟨c_Sport, e_c_Sport, w_c_Sport⟩ := f_c2.int Try.underlying3; cases e_c_Sport
  obtain ⟨c_Dst, e_c_Dst, w_c_Dst⟩ := f_c3.int Try.underlying22; cases e_c_Dst
  obtain ⟨c_Dport, e_c_Dport, w_c_Dport⟩ := f_c4.int Try.underlying3; cases e_c_Dport
  exact tupleOrder_walk ⟨a_Proto, a_Src, a_Sport, a_Dst, a_Dport⟩ ⟨b_Proto, b_Src, b_Sport, b_Dst, b_Dport⟩ ⟨c_Proto, c_Src, c_Sport, c_Dst, c_Dport⟩ W
    ⟨⟨bounds_u32 w_a_Src, bounds_u32 w_a_Dst⟩, bounds_i64 w_a_Sport, bounds_i64 w_a_Dport⟩ ⟨⟨bounds_u32 w_b_Src, bounds_u32 w_b_Dst⟩, bounds_i64 w_b_Sport, bounds_i64 w_b_Dport⟩ ⟨⟨bounds_u32 w_c_Src, bounds_u32 w_c_Dst⟩, bounds_i64 w_c_Sport, bounds_i64 w_c_Dport⟩
set_option maxRecDepth 100000 in
theorem tupleOrder_lifted (os : Os) (started : os.Started) (H : Type) (enc : TypeId × Value → H) :
    ReturnsInHanded {} Try.checked os 11 .any (Rows.tupleOrderSpec.pre6 enc Try.prog Try.f11 Rows.tupleOrderRow.domain false) (Rows.tupleOrderSpec.post enc Try.prog Try.f11 false true false false) := by
  refine returnsInHanded_of_change (C := Try.checked) (by kernel_rfl) started (by kernel_rfl) Try.func11
    (ChangeSpec.witness6 (enc := enc) (C := Try.checked) false ⟨#[], #[.agg #[.int .i64 0, .int .u32 0, .int .i64 0, .int .u32 0, .int .i64 0], .agg #[.int .i64 0, .int .u32 0, .int .i64 0, .int .u32 0, .int .i64 0], .agg #[.int .i64 0, .int .u32 0, .int .i64 0, .int .u32 0, .int .i64 0]], []⟩ 8 (by kernel_rfl) (by kernel_rfl) (by kernel_rfl) (by kernel_rfl)) ?_
  intro W base args ds gs before hval hW _ _
  obtain ⟨p, q, hA, _, _, _, _⟩ := id hW
  have hargs : Args Try.prog W base Try.f11.params.toList args.toList := args_of (fun j t v h1 h2 => hval j t v (by simpa using h1) (by simpa using h2)) hA
  rw [Try.params11] at hargs
  obtain ⟨v0, l0, e0, a0, r0⟩ := args_cons hargs
  obtain ⟨v1, l1, e1, a1, r1⟩ := args_cons r0
  obtain ⟨v2, l2, e2, a2, r2⟩ := args_cons r1
  have hn := args_nil r2
  have he : args = #[v0, v1, v2] := by
    apply Array.ext'
    simp only [e0, e1, e2, hn]
  subst he
  exact (tupleOrder_core W base v0 v1 v2 a0 a1 a2).mono fun e W' ⟨he, hj⟩ => ⟨_, he, post_true (tb := 4) (by kernel_rfl) (by kernel_rfl) rfl (by kernel_rfl) rfl hW (fun hg hl => by
    subst hg
    match ds, hl with
    | [_, _, _], _ => exact ⟨rfl, rfl, rfl⟩) hj⟩
theorem tupleOrder_holds : Rows.TupleOrderSaid :=
  OpenClaim.holds_of_wide 11 Try.f11 rfl rfl rfl rfl rfl rfl rfl ⟨rfl, rfl, rfl, rfl, rfl⟩ rfl rfl rfl rfl rfl (by kernel_rfl) Try.func11 (by kernel_rfl)
    (of_decide_eq_true (by kernel_rfl)) (by unfold Func.isWrapper; rw [if_neg (of_decide_eq_false (by kernel_rfl))]; exact ⟨rfl, rfl⟩)
    (fun os started H enc _ => tupleOrder_lifted os started H enc)

end Go.Proofs.Ytjmofjcloebgmaa
