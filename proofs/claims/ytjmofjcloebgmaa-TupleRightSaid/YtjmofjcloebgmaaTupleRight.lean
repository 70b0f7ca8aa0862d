/- The law TupleRight: any packet has the document's tuple, or its error; any tuple is right, stands, and has a hash, as it says. -/
import Derived.Test.YtjmofjcloebgmaaTupS
import Derived.Test.YtjmofjcloebgmaaTupR
import Derived.Test.YtjmofjcloebgmaaLift2
set_option linter.unusedVariables false
set_option maxRecDepth 100000
set_option linter.unusedSimpArgs false
namespace Go.Proofs.Ytjmofjcloebgmaa
open Go.RowKit
theorem tup_short_any (c0 c1 c2 c3 c4 c5 c6 c7 c8 : Value) (oo : Option Addr) (ol oc : Nat) (ob : Option Addr) (l bc : Nat) (w : World) : Calls Try.prog 34 #[.agg #[c0, c1, c2, c3, c4, c5, c6, c7, c8, .slice oo ol oc, .slice ob l bc]] w fun e w' => e = .returned (.bool (decide (ol ≤ 100) && decide (l ≤ 3000))) ∧ Junk w w' := by
  by_cases h1 : ol ≤ 100
  · have h1' : (ol : Int) ≤ 100 := by omega
    by_cases h2 : l ≤ 3000
    · have h2' : (l : Int) ≤ 3000 := by omega
      rw [decide_eq_true h1, decide_eq_true h2]
      clear h1 h2
      go_enter Try.func34, Try.ntmps34
      go_wp2
      go_ret
      exact ⟨ret_bool (by simp; try omega), by (first | ((repeat (first | with_reducible exact Junk.refl _ | with_reducible exact Junk.app _ _ _ _ _ | with_reducible apply Junk.alloc | with_reducible apply Junk.junk | with_reducible apply Junk.drew | with_reducible apply Junk.drewN)); done) | ((try simp only [World.junk_junk, Array.append_assoc]); (repeat (first | with_reducible exact Junk.refl _ | with_reducible exact Junk.app _ _ _ _ _ | with_reducible exact Junk.app2 _ _ _ _ _ _ | with_reducible exact Junk.app3 _ _ _ _ _ _ _ | with_reducible exact Junk.app4 _ _ _ _ _ _ _ _ | with_reducible exact Junk.app5 _ _ _ _ _ _ _ _ _ | with_reducible apply Junk.alloc | with_reducible apply Junk.junk | with_reducible apply Junk.drew | with_reducible apply Junk.drewN))))⟩
    · have h2' : ¬ (l : Int) ≤ 3000 := by omega
      rw [decide_eq_true h1, decide_eq_false h2]
      clear h1 h2
      go_enter Try.func34, Try.ntmps34
      go_wp2
      go_ret
      exact ⟨ret_bool (by simp; try omega), by (first | ((repeat (first | with_reducible exact Junk.refl _ | with_reducible exact Junk.app _ _ _ _ _ | with_reducible apply Junk.alloc | with_reducible apply Junk.junk | with_reducible apply Junk.drew | with_reducible apply Junk.drewN)); done) | ((try simp only [World.junk_junk, Array.append_assoc]); (repeat (first | with_reducible exact Junk.refl _ | with_reducible exact Junk.app _ _ _ _ _ | with_reducible exact Junk.app2 _ _ _ _ _ _ | with_reducible exact Junk.app3 _ _ _ _ _ _ _ | with_reducible exact Junk.app4 _ _ _ _ _ _ _ _ | with_reducible exact Junk.app5 _ _ _ _ _ _ _ _ _ | with_reducible apply Junk.alloc | with_reducible apply Junk.junk | with_reducible apply Junk.drew | with_reducible apply Junk.drewN))))⟩
  · have h1' : ¬ (ol : Int) ≤ 100 := by omega
    rw [decide_eq_false h1]
    clear h1
    go_enter Try.func34, Try.ntmps34
    go_wp2
    go_ret
    exact ⟨ret_bool (by simp), by (first | ((repeat (first | with_reducible exact Junk.refl _ | with_reducible exact Junk.app _ _ _ _ _ | with_reducible apply Junk.alloc | with_reducible apply Junk.junk | with_reducible apply Junk.drew | with_reducible apply Junk.drewN)); done) | ((try simp only [World.junk_junk, Array.append_assoc]); (repeat (first | with_reducible exact Junk.refl _ | with_reducible exact Junk.app _ _ _ _ _ | with_reducible exact Junk.app2 _ _ _ _ _ _ | with_reducible exact Junk.app3 _ _ _ _ _ _ _ | with_reducible exact Junk.app4 _ _ _ _ _ _ _ _ | with_reducible exact Junk.app5 _ _ _ _ _ _ _ _ _ | with_reducible apply Junk.alloc | with_reducible apply Junk.junk | with_reducible apply Junk.drew | with_reducible apply Junk.drewN))))⟩
set_option maxHeartbeats 2000000 in
theorem tupleRight_long (c0 c1 c2 c5 : Value) (m : Bool) (off pr src dst : Int) (oo : Option Addr) (ol oc : Nat) (ob : Option Addr) (l bc : Nat) (xs : Nat → Int) (a b : Tup) (s : Int) (w : World) (h1 : 0 ≤ src ∧ src ≤ 4294967295) (h2 : 0 ≤ dst ∧ dst ≤ 4294967295) (hB : Bts w ob l bc xs) (ha : TupW a) (hb : TupW b) (hs : 0 ≤ s ∧ s ≤ 4294967295) (hlong : (decide (ol ≤ 100) && decide (l ≤ 3000)) = false) : Calls Try.prog 10 #[.agg #[c0, c1, c2, .bool m, .int .i64 off, c5, .int .i64 pr, .int .u32 src, .int .u32 dst, .slice oo ol oc, .slice ob l bc], .agg #[.int .i64 a.proto, .int .u32 a.src, .int .i64 a.sport, .int .u32 a.dst, .int .i64 a.dport], .agg #[.int .i64 b.proto, .int .u32 b.src, .int .i64 b.sport, .int .u32 b.dst, .int .i64 b.dport], .int .u32 s] w fun e w' => e = .returned (.bool true) ∧ Junk w w' := by
  have HSH := Lib.hid (fun w1 => show Calls Try.prog 34 #[.agg #[c0, c1, c2, .bool m, .int .i64 off, c5, .int .i64 pr, .int .u32 src, .int .u32 dst, .slice oo ol oc, .slice ob l bc]] w1 fun e w' => e = .returned (.bool false) ∧ Junk w1 w' by rw [← hlong]; exact tup_short_any _ _ _ _ _ _ _ _ _ oo ol oc ob l bc w1)
  clear hlong
  go_enter Try.func10, Try.ntmps10
  go_wp2_with (first | (go_at_call 29; refine (awake09_any _).mono ?_; rintro e w' ⟨rfl, ⟨osj, dj, rfl⟩⟩) | (go_at_call 34; (with_reducible refine (HSH.out _).mono ?_); rintro e w' ⟨rfl, ⟨osj, dj, rfl⟩⟩))
  go_ret
  exact ⟨ret_bool rfl, by (first | ((repeat (first | with_reducible exact Junk.refl _ | with_reducible exact Junk.app _ _ _ _ _ | with_reducible apply Junk.alloc | with_reducible apply Junk.junk | with_reducible apply Junk.drew | with_reducible apply Junk.drewN)); done) | ((try simp only [World.junk_junk, Array.append_assoc]); (repeat (first | with_reducible exact Junk.refl _ | with_reducible exact Junk.app _ _ _ _ _ | with_reducible exact Junk.app2 _ _ _ _ _ _ | with_reducible exact Junk.app3 _ _ _ _ _ _ _ | with_reducible exact Junk.app4 _ _ _ _ _ _ _ _ | with_reducible exact Junk.app5 _ _ _ _ _ _ _ _ _ | with_reducible apply Junk.alloc | with_reducible apply Junk.junk | with_reducible apply Junk.drew | with_reducible apply Junk.drewN))))⟩
set_option maxHeartbeats 8000000 in
theorem tupleRight_walk (c0 c1 c2 c5 : Value) (m : Bool) (off pr src dst : Int) (oo : Option Addr) (ol oc : Nat) (ob : Option Addr) (l bc : Nat) (xs : Nat → Int) (a b : Tup) (s : Int) (w : World) (h1 : 0 ≤ src ∧ src ≤ 4294967295) (h2 : 0 ≤ dst ∧ dst ≤ 4294967295) (hB : Bts w ob l bc xs) (ha : TupW a) (hb : TupW b) (hs : 0 ≤ s ∧ s ≤ 4294967295) (hlong : (decide (ol ≤ 100) && decide (l ≤ 3000)) = true) : Calls Try.prog 10 #[.agg #[c0, c1, c2, .bool m, .int .i64 off, c5, .int .i64 pr, .int .u32 src, .int .u32 dst, .slice oo ol oc, .slice ob l bc], .agg #[.int .i64 a.proto, .int .u32 a.src, .int .i64 a.sport, .int .u32 a.dst, .int .i64 a.dport], .agg #[.int .i64 b.proto, .int .u32 b.src, .int .i64 b.sport, .int .u32 b.dst, .int .i64 b.dport], .int .u32 s] w fun e w' => e = .returned (.bool true) ∧ Junk w w' := by
  have HB := Lib.hid hB
  have HSH := Lib.hid (fun w1 => show Calls Try.prog 34 #[.agg #[c0, c1, c2, .bool m, .int .i64 off, c5, .int .i64 pr, .int .u32 src, .int .u32 dst, .slice oo ol oc, .slice ob l bc]] w1 fun e w' => e = .returned (.bool true) ∧ Junk w1 w' by rw [← hlong]; exact tup_short_any _ _ _ _ _ _ _ _ _ oo ol oc ob l bc w1)
  have hl : l ≤ 100000000 := by simp at hlong; omega
  obtain ⟨T, hT⟩ : ∃ T, ofTup m off pr src dst xs l = T := ⟨_, rfl⟩
  obtain ⟨E, hE⟩ : ∃ E, ofErr m off pr src dst xs l = E := ⟨_, rfl⟩
  have HOF := Lib.hid (fun w1 (hb1 : Bts w1 ob l bc xs) => show Calls Try.prog 33 #[.agg #[c0, c1, c2, .bool m, .int .i64 off, c5, .int .i64 pr, .int .u32 src, .int .u32 dst, .slice oo ol oc, .slice ob l bc]] w1 fun e w' => e = .returned (.tuple #[.agg #[.int .i64 T.proto, .int .u32 T.src, .int .i64 T.sport, .int .u32 T.dst, .int .i64 T.dport], .int .i64 E]) ∧ Junk w1 w' by rw [← hT, ← hE]; exact tup_of_any c0 c1 c2 c5 (.slice oo ol oc) m off pr src dst ob l bc xs w1 h1 h2 hl hb1)
  have HRO := Lib.hid (fun w1 (hb1 : Bts w1 ob l bc xs) => show Calls Try.prog 35 #[.agg #[c0, c1, c2, .bool m, .int .i64 off, c5, .int .i64 pr, .int .u32 src, .int .u32 dst, .slice oo ol oc, .slice ob l bc]] w1 fun e w' => e = .returned (.tuple #[.agg #[.int .i64 T.proto, .int .u32 T.src, .int .i64 T.sport, .int .u32 T.dst, .int .i64 T.dport], .int .i64 E]) ∧ Junk w1 w' by rw [← hT, ← hE]; exact rof_any c0 c1 c2 c5 (.slice oo ol oc) m off pr src dst ob l bc xs w1 h1 h2 hl hb1)
  have HT1 := Lib.hid (fun w1 => tup_turn_any a w1)
  have HT2 := Lib.hid (fun w1 => tup_rturn_any a w1)
  obtain ⟨RA, hRA⟩ : ∃ R, tupRight a = R := ⟨_, rfl⟩
  have HR1 := Lib.hid (fun w1 => show Calls Try.prog 31 #[.agg #[.int .i64 a.proto, .int .u32 a.src, .int .i64 a.sport, .int .u32 a.dst, .int .i64 a.dport]] w1 fun e w' => e = .returned (.bool RA) ∧ Junk w1 w' by rw [← hRA]; exact tup_right_any a w1)
  have HR2 := Lib.hid (fun w1 => show Calls Try.prog 37 #[.agg #[.int .i64 a.proto, .int .u32 a.src, .int .i64 a.sport, .int .u32 a.dst, .int .i64 a.dport]] w1 fun e w' => e = .returned (.bool RA) ∧ Junk w1 w' by rw [← hRA]; exact tup_rright_any a w1)
  obtain ⟨HA, hHA⟩ : ∃ R, tupHash a s = R := ⟨_, rfl⟩
  have HH1 := Lib.hid (fun w1 => show Calls Try.prog 38 #[.agg #[.int .i64 a.proto, .int .u32 a.src, .int .i64 a.sport, .int .u32 a.dst, .int .i64 a.dport], .int .u32 s] w1 fun e w' => e = .returned (.int .u32 HA) ∧ Junk w1 w' by rw [← hHA]; exact tup_hash_any a s w1 ha hs)
  have HH2 := Lib.hid (fun w1 => show Calls Try.prog 39 #[.agg #[.int .i64 a.proto, .int .u32 a.src, .int .i64 a.sport, .int .u32 a.dst, .int .i64 a.dport], .int .u32 s] w1 fun e w' => e = .returned (.int .u32 HA) ∧ Junk w1 w' by rw [← hHA]; exact rhash_any a s w1 ha.toTupWf hs)
  obtain ⟨LA, hLA⟩ : ∃ R, tupLess a b = R := ⟨_, rfl⟩
  have HL1 := Lib.hid (fun w1 => show Calls Try.prog 40 #[.agg #[.int .i64 a.proto, .int .u32 a.src, .int .i64 a.sport, .int .u32 a.dst, .int .i64 a.dport], .agg #[.int .i64 b.proto, .int .u32 b.src, .int .i64 b.sport, .int .u32 b.dst, .int .i64 b.dport]] w1 fun e w' => e = .returned (.bool LA) ∧ Junk w1 w' by rw [← hLA]; exact tup_less_any a b w1 ha hb)
  have HL2 := Lib.hid (fun w1 => show Calls Try.prog 41 #[.agg #[.int .i64 a.proto, .int .u32 a.src, .int .i64 a.sport, .int .u32 a.dst, .int .i64 a.dport], .agg #[.int .i64 b.proto, .int .u32 b.src, .int .i64 b.sport, .int .u32 b.dst, .int .i64 b.dport]] w1 fun e w' => e = .returned (.bool LA) ∧ Junk w1 w' by rw [← hLA]; exact rless_any a b w1 ha.toTupWf hb.toTupWf)
  have hg := tup_guard
  have hq1 : ∀ w, (binOp .eql 58 (.agg #[.int .i64 T.proto, .int .u32 T.src, .int .i64 T.sport, .int .u32 T.dst, .int .i64 T.dport]) (.agg #[.int .i64 T.proto, .int .u32 T.src, .int .i64 T.sport, .int .u32 T.dst, .int .i64 T.dport])).run Try.prog w = .ok (.bool true) w := fun w => by have := tup_eql T T w; rw [decide_eq_true rfl] at this; exact this
  have hq2 : ∀ w, (binOp .eql 58 (.agg #[.int .i64 a.proto, .int .u32 a.dst, .int .i64 a.dport, .int .u32 a.src, .int .i64 a.sport]) (.agg #[.int .i64 a.proto, .int .u32 a.dst, .int .i64 a.dport, .int .u32 a.src, .int .i64 a.sport])).run Try.prog w = .ok (.bool true) w := fun w => by have := tup_eql (tupTurn a) (tupTurn a) w; rw [decide_eq_true rfl] at this; exact this
  clear hB hlong hT hE hRA hHA hLA ha hb hs h1 h2
  go_enter Try.func10, Try.ntmps10
  go_wp2_with (first | (go_at_call 29; refine (awake09_any _).mono ?_; rintro e w' ⟨rfl, ⟨osj, dj, rfl⟩⟩) | (go_at_call 34; (with_reducible refine (HSH.out _).mono ?_); rintro e w' ⟨rfl, ⟨osj, dj, rfl⟩⟩) | (go_at_call 33; (with_reducible refine (HOF.out _ (HB.out.on (by (first | ((repeat (first | with_reducible exact Junk.refl _ | with_reducible exact Junk.app _ _ _ _ _ | with_reducible apply Junk.alloc | with_reducible apply Junk.junk | with_reducible apply Junk.drew | with_reducible apply Junk.drewN)); done) | ((try simp only [World.junk_junk, Array.append_assoc]); (repeat (first | with_reducible exact Junk.refl _ | with_reducible exact Junk.app _ _ _ _ _ | with_reducible exact Junk.app2 _ _ _ _ _ _ | with_reducible exact Junk.app3 _ _ _ _ _ _ _ | with_reducible exact Junk.app4 _ _ _ _ _ _ _ _ | with_reducible exact Junk.app5 _ _ _ _ _ _ _ _ _ | with_reducible apply Junk.alloc | with_reducible apply Junk.junk | with_reducible apply Junk.drew | with_reducible apply Junk.drewN))))))).mono ?_); rintro e w' ⟨rfl, ⟨osj, dj, rfl⟩⟩) | (go_at_call 35; (with_reducible refine (HRO.out _ (HB.out.on (by (first | ((repeat (first | with_reducible exact Junk.refl _ | with_reducible exact Junk.app _ _ _ _ _ | with_reducible apply Junk.alloc | with_reducible apply Junk.junk | with_reducible apply Junk.drew | with_reducible apply Junk.drewN)); done) | ((try simp only [World.junk_junk, Array.append_assoc]); (repeat (first | with_reducible exact Junk.refl _ | with_reducible exact Junk.app _ _ _ _ _ | with_reducible exact Junk.app2 _ _ _ _ _ _ | with_reducible exact Junk.app3 _ _ _ _ _ _ _ | with_reducible exact Junk.app4 _ _ _ _ _ _ _ _ | with_reducible exact Junk.app5 _ _ _ _ _ _ _ _ _ | with_reducible apply Junk.alloc | with_reducible apply Junk.junk | with_reducible apply Junk.drew | with_reducible apply Junk.drewN))))))).mono ?_); rintro e w' ⟨rfl, ⟨osj, dj, rfl⟩⟩))
  refine wp_region_junk (by kernel_rfl) (by kernel_rfl) ?_; (repeat (go_big_quiet_step (first | (go_at_call 30; first | with_reducible exact Calls.junk_of5 (HT1.out _) | with_reducible exact Calls.junk_of4 (HT1.out _) | with_reducible exact Calls.junk_of3 (HT1.out _) | with_reducible exact Calls.junk_of2 (HT1.out _) | with_reducible exact Calls.junk_of (HT1.out _)) | (go_at_call 36; first | with_reducible exact Calls.junk_of5 (HT2.out _) | with_reducible exact Calls.junk_of4 (HT2.out _) | with_reducible exact Calls.junk_of3 (HT2.out _) | with_reducible exact Calls.junk_of2 (HT2.out _) | with_reducible exact Calls.junk_of (HT2.out _)) | (go_at_call 31; first | with_reducible exact Calls.junk_of5 (HR1.out _) | with_reducible exact Calls.junk_of4 (HR1.out _) | with_reducible exact Calls.junk_of3 (HR1.out _) | with_reducible exact Calls.junk_of2 (HR1.out _) | with_reducible exact Calls.junk_of (HR1.out _)) | (go_at_call 37; first | with_reducible exact Calls.junk_of5 (HR2.out _) | with_reducible exact Calls.junk_of4 (HR2.out _) | with_reducible exact Calls.junk_of3 (HR2.out _) | with_reducible exact Calls.junk_of2 (HR2.out _) | with_reducible exact Calls.junk_of (HR2.out _)) | (go_at_call 38; first | with_reducible exact Calls.junk_of5 (HH1.out _) | with_reducible exact Calls.junk_of4 (HH1.out _) | with_reducible exact Calls.junk_of3 (HH1.out _) | with_reducible exact Calls.junk_of2 (HH1.out _) | with_reducible exact Calls.junk_of (HH1.out _)) | (go_at_call 39; first | with_reducible exact Calls.junk_of5 (HH2.out _) | with_reducible exact Calls.junk_of4 (HH2.out _) | with_reducible exact Calls.junk_of3 (HH2.out _) | with_reducible exact Calls.junk_of2 (HH2.out _) | with_reducible exact Calls.junk_of (HH2.out _)) | (go_at_call 40; first | with_reducible exact Calls.junk_of5 (HL1.out _) | with_reducible exact Calls.junk_of4 (HL1.out _) | with_reducible exact Calls.junk_of3 (HL1.out _) | with_reducible exact Calls.junk_of2 (HL1.out _) | with_reducible exact Calls.junk_of (HL1.out _)) | (go_at_call 41; first | with_reducible exact Calls.junk_of5 (HL2.out _) | with_reducible exact Calls.junk_of4 (HL2.out _) | with_reducible exact Calls.junk_of3 (HL2.out _) | with_reducible exact Calls.junk_of2 (HL2.out _) | with_reducible exact Calls.junk_of (HL2.out _))))); refine wpQuiet_nil ?_; rintro _ ⟨⟨osq, dq⟩, rfl⟩
  go_wp2
  go_ret
  exact ⟨ret_bool rfl, by (first | ((repeat (first | with_reducible exact Junk.refl _ | with_reducible exact Junk.app _ _ _ _ _ | with_reducible apply Junk.alloc | with_reducible apply Junk.junk | with_reducible apply Junk.drew | with_reducible apply Junk.drewN)); done) | ((try simp only [World.junk_junk, Array.append_assoc]); (repeat (first | with_reducible exact Junk.refl _ | with_reducible exact Junk.app _ _ _ _ _ | with_reducible exact Junk.app2 _ _ _ _ _ _ | with_reducible exact Junk.app3 _ _ _ _ _ _ _ | with_reducible exact Junk.app4 _ _ _ _ _ _ _ _ | with_reducible exact Junk.app5 _ _ _ _ _ _ _ _ _ | with_reducible apply Junk.alloc | with_reducible apply Junk.junk | with_reducible apply Junk.drew | with_reducible apply Junk.drewN))))⟩
theorem tupleRight_core (W : World) (base : Nat) (v0 v1 v2 v3 : Value) (a0 : Arg Try.prog W base 67 v0) (a1 : Arg Try.prog W base 58 v1) (a2 : Arg Try.prog W base 58 v2) (a3 : Arg Try.prog W base 22 v3) :
    Calls Try.prog 10 #[v0, v1, v2, v3] W fun e W' => e = .returned (.bool true) ∧ Junk W W' := by
  obtain ⟨cs_p, rfl, h_p⟩ := a0.struct Try.underlying67
  obtain ⟨hl_p, hf_p⟩ := h_p.fields1 Try.underlying67 (by kernel_rfl) (n := 11) (by kernel_rfl)
  obtain ⟨p_TOS, lp0, e_p0⟩ : ∃ x l, cs_p = x :: l := by cases cs_p with | nil => simp at hl_p | cons x l => exact ⟨x, l, rfl⟩
  subst e_p0
  obtain ⟨p_ID, lp1, e_p1⟩ : ∃ x l, lp0 = x :: l := by cases lp0 with | nil => simp at hl_p | cons x l => exact ⟨x, l, rfl⟩
  subst e_p1
  obtain ⟨p_DF, lp2, e_p2⟩ : ∃ x l, lp1 = x :: l := by cases lp1 with | nil => simp at hl_p | cons x l => exact ⟨x, l, rfl⟩
  subst e_p2
  obtain ⟨p_MF, lp3, e_p3⟩ : ∃ x l, lp2 = x :: l := by cases lp2 with | nil => simp at hl_p | cons x l => exact ⟨x, l, rfl⟩
  subst e_p3
  obtain ⟨p_Off, lp4, e_p4⟩ : ∃ x l, lp3 = x :: l := by cases lp3 with | nil => simp at hl_p | cons x l => exact ⟨x, l, rfl⟩
  subst e_p4
  obtain ⟨p_TTL, lp5, e_p5⟩ : ∃ x l, lp4 = x :: l := by cases lp4 with | nil => simp at hl_p | cons x l => exact ⟨x, l, rfl⟩
  subst e_p5
  obtain ⟨p_Proto, lp6, e_p6⟩ : ∃ x l, lp5 = x :: l := by cases lp5 with | nil => simp at hl_p | cons x l => exact ⟨x, l, rfl⟩
  subst e_p6
  obtain ⟨p_Src, lp7, e_p7⟩ : ∃ x l, lp6 = x :: l := by cases lp6 with | nil => simp at hl_p | cons x l => exact ⟨x, l, rfl⟩
  subst e_p7
  obtain ⟨p_Dst, lp8, e_p8⟩ : ∃ x l, lp7 = x :: l := by cases lp7 with | nil => simp at hl_p | cons x l => exact ⟨x, l, rfl⟩
  subst e_p8
  obtain ⟨p_Opts, lp9, e_p9⟩ : ∃ x l, lp8 = x :: l := by cases lp8 with | nil => simp at hl_p | cons x l => exact ⟨x, l, rfl⟩
  subst e_p9
  obtain ⟨p_Body, lp10, e_p10⟩ : ∃ x l, lp9 = x :: l := by cases lp9 with | nil => simp at hl_p | cons x l => exact ⟨x, l, rfl⟩
  subst e_p10
  obtain rfl : lp10 = [] := by simpa using hl_p
  have f_p0 : Cells Try.prog W 3 [p_TOS] := hf_p 0 _ rfl
  have f_p1 : Cells Try.prog W 3 [p_ID] := hf_p 1 _ rfl
  have f_p2 : Cells Try.prog W 4 [p_DF] := hf_p 2 _ rfl
  have f_p3 : Cells Try.prog W 4 [p_MF] := hf_p 3 _ rfl
  have f_p4 : Cells Try.prog W 3 [p_Off] := hf_p 4 _ rfl
  have f_p5 : Cells Try.prog W 3 [p_TTL] := hf_p 5 _ rfl
  have f_p6 : Cells Try.prog W 3 [p_Proto] := hf_p 6 _ rfl
  have f_p7 : Cells Try.prog W 22 [p_Src] := hf_p 7 _ rfl
  have f_p8 : Cells Try.prog W 22 [p_Dst] := hf_p 8 _ rfl
  have f_p9 : Cells Try.prog W 23 [p_Opts] := hf_p 9 _ rfl
  have f_p10 : Cells Try.prog W 23 [p_Body] := hf_p 10 _ rfl
  clear hf_p hl_p
  obtain ⟨p_TOS, e_p_TOS, w_p_TOS⟩ := f_p0.int Try.underlying3; cases e_p_TOS
  obtain ⟨p_ID, e_p_ID, w_p_ID⟩ := f_p1.int Try.underlying3; cases e_p_ID
  obtain ⟨p_DF, e_p_DF⟩ := f_p2.bool Try.underlying4; cases e_p_DF
  obtain ⟨p_MF, e_p_MF⟩ := f_p3.bool Try.underlying4; cases e_p_MF
  obtain ⟨p_Off, e_p_Off, w_p_Off⟩ := f_p4.int Try.underlying3; cases e_p_Off
  obtain ⟨p_TTL, e_p_TTL, w_p_TTL⟩ := f_p5.int Try.underlying3; cases e_p_TTL
  obtain ⟨p_Proto, e_p_Proto, w_p_Proto⟩ := f_p6.int Try.underlying3; cases e_p_Proto
  obtain ⟨p_Src, e_p_Src, w_p_Src⟩ := f_p7.int Try.underlying22; cases e_p_Src
  obtain ⟨p_Dst, e_p_Dst, w_p_Dst⟩ := f_p8.int Try.underlying22; cases e_p_Dst
  obtain ⟨p_Opts_a, p_Opts_l, p_Opts_c, p_Opts, e_p_Opts, lc_p_Opts, cm_p_Opts, S_p_Opts, w_p_Opts⟩ := f_p9.ints Try.underlying23 Try.underlying5 (by kernel_rfl); cases e_p_Opts
  obtain ⟨p_Body_a, p_Body_l, p_Body_c, p_Body, e_p_Body, lc_p_Body, cm_p_Body, S_p_Body, w_p_Body⟩ := f_p10.ints Try.underlying23 Try.underlying5 (by kernel_rfl); cases e_p_Body
  obtain ⟨cs_a, rfl, h_a⟩ := a1.struct Try.underlying58
  obtain ⟨hl_a, hf_a⟩ := h_a.fields1 Try.underlying58 (by kernel_rfl) (n := 5) (by kernel_rfl)
  obtain ⟨a_Proto, la0, e_a0⟩ : ∃ x l, cs_a = x :: l := by cases cs_a with | nil => simp at hl_a | cons x l => exact ⟨x, l, rfl⟩
  subst e_a0
  obtain ⟨a_Src, la1, e_a1⟩ : ∃ x l, la0 = x :: l := by cases la0 with | nil => simp at hl_a | cons x l => exact ⟨x, l, rfl⟩
  subst e_a1
  obtain ⟨a_Sport, la2, e_a2⟩ : ∃ x l, la1 = x :: l := by cases la1 with | nil => simp at hl_a | cons x l => exact ⟨x, l, rfl⟩
  subst e_a2
  obtain ⟨a_Dst, la3, e_a3⟩ : ∃ x l, la2 = x :: l := by cases la2 with | nil => simp at hl_a | cons x l => exact ⟨x, l, rfl⟩
  subst e_a3
  obtain ⟨a_Dport, la4, e_a4⟩ : ∃ x l, la3 = x :: l := by cases la3 with | nil => simp at hl_a | cons x l => exact ⟨x, l, rfl⟩
  subst e_a4
  obtain rfl : la4 = [] := by simpa using hl_a
  have f_a0 : Cells Try.prog W 3 [a_Proto] := hf_a 0 _ rfl
  have f_a1 : Cells Try.prog W 22 [a_Src] := hf_a 1 _ rfl
  have f_a2 : Cells Try.prog W 3 [a_Sport] := hf_a 2 _ rfl
  have f_a3 : Cells Try.prog W 22 [a_Dst] := hf_a 3 _ rfl
  have f_a4 : Cells Try.prog W 3 [a_Dport] := hf_a 4 _ rfl
  clear hf_a hl_a
  obtain ⟨a_Proto, e_a_Proto, w_a_Proto⟩ := f_a0.int Try.underlying3; cases e_a_Proto
  obtain ⟨a_Src, e_a_Src, w_a_Src⟩ := f_a1.int Try.underlying22; cases e_a_Src
  obtain ⟨a_Sport, e_a_Sport, w_a_Sport⟩ := f_a2.int Try.underlying3; cases e_a_Sport
  obtain ⟨a_Dst, e_a_Dst, w_a_Dst⟩ := f_a3.int Try.underlying22; cases e_a_Dst
  obtain ⟨a_Dport, e_a_Dport, w_a_Dport⟩ := f_a4.int Try.underlying3; cases e_a_Dport
  obtain ⟨cs_b, rfl, h_b⟩ := a2.struct Try.underlying58
  obtain ⟨hl_b, hf_b⟩ := h_b.fields1 Try.underlying58 (by kernel_rfl) (n := 5) (by kernel_rfl)
  obtain ⟨b_Proto, lb0, e_b0⟩ : ∃ x l, cs_b = x :: l := by cases cs_b with | nil => simp at hl_b | cons x l => exact ⟨x, l, rfl⟩
  subst e_b0
  obtain ⟨b_Src, lb1, e_b1⟩ : ∃ x l, lb0 = x :: l := by cases lb0 with | nil => simp at hl_b | cons x l => exact ⟨x, l, rfl⟩
  subst e_b1
  obtain ⟨b_Sport, lb2, e_b2⟩ : ∃ x l, lb1 = x :: l := by cases lb1 with | nil => simp at hl_b | cons x l => exact ⟨x, l, rfl⟩
  subst e_b2
  obtain ⟨b_Dst, lb3, e_b3⟩ : ∃ x l, lb2 = x :: l := by cases lb2 with | nil => simp at hl_b | cons x l => exact ⟨x, l, rfl⟩
  subst e_b3
  obtain ⟨b_Dport, lb4, e_b4⟩ : ∃ x l, lb3 = x :: l := by cases lb3 with | nil => simp at hl_b | cons x l => exact ⟨x, l, rfl⟩
  subst e_b4
  obtain rfl : lb4 = [] := by simpa using hl_b
  have f_b0 : Cells Try.prog W 3 [b_Proto] := hf_b 0 _ rfl
  have f_b1 : Cells Try.prog W 22 [b_Src] := hf_b 1 _ rfl
  have f_b2 : Cells Try.prog W 3 [b_Sport] := hf_b 2 _ rfl
  have f_b3 : Cells Try.prog W 22 [b_Dst] := hf_b 3 _ rfl
  have f_b4 : Cells Try.prog W 3 [b_Dport] := hf_b 4 _ rfl
  clear hf_b hl_b
  obtain ⟨b_Proto, e_b_Proto, w_b_Proto⟩ := f_b0.int Try.underlying3; cases e_b_Proto
  obtain ⟨b_Src, e_b_Src, w_b_Src⟩ := f_b1.int Try.underlying22; cases e_b_Src
  obtain ⟨b_Sport, e_b_Sport, w_b_Sport⟩ := f_b2.int Try.underlying3; cases e_b_Sport
  obtain ⟨b_Dst, e_b_Dst, w_b_Dst⟩ := f_b3.int Try.underlying22; cases e_b_Dst
  obtain ⟨b_Dport, e_b_Dport, w_b_Dport⟩ := f_b4.int Try.underlying3; cases e_b_Dport
  obtain ⟨s, rfl, w_s⟩ := a3.int Try.underlying22
  have hB : Bts W p_Body_a p_Body_l p_Body_c p_Body := ⟨S_p_Body, fun i hi => bounds_u8 (w_p_Body i hi), Cells.nil_slice Try.underlying23 f_p10, lc_p_Body, cm_p_Body⟩
  have ha : TupW ⟨a_Proto, a_Src, a_Sport, a_Dst, a_Dport⟩ := ⟨⟨bounds_u32 w_a_Src, bounds_u32 w_a_Dst⟩, bounds_i64 w_a_Sport, bounds_i64 w_a_Dport⟩
  have hb : TupW ⟨b_Proto, b_Src, b_Sport, b_Dst, b_Dport⟩ := ⟨⟨bounds_u32 w_b_Src, bounds_u32 w_b_Dst⟩, bounds_i64 w_b_Sport, bounds_i64 w_b_Dport⟩
  cases hlong : (decide (p_Opts_l ≤ 100) && decide (p_Body_l ≤ 3000)) with
  | false => exact tupleRight_long _ _ _ _ p_MF p_Off p_Proto p_Src p_Dst p_Opts_a p_Opts_l p_Opts_c p_Body_a p_Body_l p_Body_c p_Body ⟨a_Proto, a_Src, a_Sport, a_Dst, a_Dport⟩ ⟨b_Proto, b_Src, b_Sport, b_Dst, b_Dport⟩ s W (bounds_u32 w_p_Src) (bounds_u32 w_p_Dst) hB ha hb (bounds_u32 w_s) hlong
  | true => exact tupleRight_walk _ _ _ _ p_MF p_Off p_Proto p_Src p_Dst p_Opts_a p_Opts_l p_Opts_c p_Body_a p_Body_l p_Body_c p_Body ⟨a_Proto, a_Src, a_Sport, a_Dst, a_Dport⟩ ⟨b_Proto, b_Src, b_Sport, b_Dst, b_Dport⟩ s W (bounds_u32 w_p_Src) (bounds_u32 w_p_Dst) hB ha hb (bounds_u32 w_s) hlong
set_option maxRecDepth 100000 in
theorem tupleRight_lifted (os : Os) (started : os.Started) (H : Type) (enc : TypeId × Value → H) :
    ReturnsInHanded {} Try.checked os 10 .any (Rows.tupleRightSpec.pre6 enc Try.prog Try.f10 Rows.tupleRightRow.domain false) (Rows.tupleRightSpec.post enc Try.prog Try.f10 false true false false) := by
  refine returnsInHanded_of_change (C := Try.checked) (by kernel_rfl) started (by kernel_rfl) Try.func10
    (ChangeSpec.witness6 (enc := enc) (C := Try.checked) false ⟨#[], #[.agg #[.int .i64 0, .int .i64 0, .bool false, .bool false, .int .i64 0, .int .i64 0, .int .i64 0, .int .u32 0, .int .u32 0, .slice none 0 0, .slice none 0 0], .agg #[.int .i64 0, .int .u32 0, .int .i64 0, .int .u32 0, .int .i64 0], .agg #[.int .i64 0, .int .u32 0, .int .i64 0, .int .u32 0, .int .i64 0], .int .u32 0], []⟩ 8 (by kernel_rfl) (by kernel_rfl) (by kernel_rfl) (by kernel_rfl)) ?_
  intro W base args ds gs before hval hW _ _
  obtain ⟨p, q, hA, _, _, _, _⟩ := id hW
  have hargs : Args Try.prog W base Try.f10.params.toList args.toList := args_of (fun j t v h1 h2 => hval j t v (by simpa using h1) (by simpa using h2)) hA
  rw [Try.params10] at hargs
  obtain ⟨v0, l0, e0, a0, r0⟩ := args_cons hargs
  obtain ⟨v1, l1, e1, a1, r1⟩ := args_cons r0
  obtain ⟨v2, l2, e2, a2, r2⟩ := args_cons r1
  obtain ⟨v3, l3, e3, a3, r3⟩ := args_cons r2
  have hn := args_nil r3
  have he : args = #[v0, v1, v2, v3] := by
    apply Array.ext'
    simp only [e0, e1, e2, e3, hn]
  subst he
  exact (tupleRight_core W base v0 v1 v2 v3 a0 a1 a2 a3).mono fun e W' ⟨he, hj⟩ => ⟨_, he, post_true (tb := 4) (by kernel_rfl) (by kernel_rfl) rfl (by kernel_rfl) rfl hW (fun hg hl => by
    subst hg
    match ds, hl with
    | [_, _, _, _], _ => exact ⟨rfl, rfl, rfl⟩) hj⟩
theorem tupleRight_holds : Rows.TupleRightSaid :=
  OpenClaim.holds_of_wide 10 Try.f10 rfl rfl rfl rfl rfl rfl rfl ⟨rfl, rfl, rfl, rfl, rfl⟩ rfl rfl rfl rfl rfl (by kernel_rfl) Try.func10 (by kernel_rfl)
    (of_decide_eq_true (by kernel_rfl)) (by unfold Func.isWrapper; rw [if_neg (of_decide_eq_false (by kernel_rfl))]; exact ⟨rfl, rfl⟩)
    (fun os started H enc _ => tupleRight_lifted os started H enc)

end Go.Proofs.Ytjmofjcloebgmaa
