/- The law NatProto: loans of one protocol don't matter to another one: who asks by it is lent the same port with them and without. -/
import Derived.Test.YtambpmbgfjefcaaNatI
set_option linter.unusedVariables false
set_option maxRecDepth 100000
set_option linter.unusedSimpArgs false
namespace Go.Proofs.Ytambpmbgfjefcaa
open Go.RowKit
theorem ownF_yes {L : List Ln} {k : Nat} {y : Ln} {proto : Int} (hy : L[k]? = some y) (hp : (y.proto == proto) = true) : ((L.take k).filter fun z => z.proto == proto) ++ [y] = (L.take (k + 1)).filter fun z => z.proto == proto := by
  rw [take_succ' hy, List.filter_append]
  simp [List.filter, hp]
theorem ownF_no {L : List Ln} {k : Nat} {y : Ln} {proto : Int} (hy : L[k]? = some y) (hp : (y.proto == proto) = false) : ((L.take k).filter fun z => z.proto == proto) = (L.take (k + 1)).filter fun z => z.proto == proto := by
  rw [take_succ' hy, List.filter_append]
  simp [List.filter, hp]
theorem own_none {B : Nat} {w : World} {e : TypeId} {size : Nat} {oa : Option Addr} {cap n : Nat} {xs : List Value} (h : Own B w e size oa cap n xs) (hn : oa = none) : n = 0 ∧ cap = 0 := by
  rcases h.form with ⟨_, h1, h2⟩ | ⟨g, cur, h0, _⟩
  · exact ⟨h1, h2⟩
  · rw [hn] at h0; cases h0
set_option maxHeartbeats 4000000 in
theorem natProto_walk (L : List Ln) (lo size : Int) (x : Ln) (D : Nat) (oa : Option Addr) (l c : Nat) (w : World) (hL : L.length = l) (hlc : l ≤ c) (hS : LsAt w oa L) (hn : oa = none → l = 0 ∧ c = 0) (hlo : 0 ≤ lo ∧ lo ≤ 65535) (hsz : 0 ≤ size ∧ size ≤ 255) (hD : D < 4294967296) :
    Calls Try.prog 7 #[.slice oa l c, .int .u16 lo, .int .u8 size, x.val, .int .u32 (D : Int)] w fun e w' => e = .returned (.bool true) ∧ Junk w w' := by
  have HS := Lib.hid hS
  have HL := Lib.hid hL
  have HN := Lib.hid hn
  clear hS hL hn
  obtain ⟨a, ha⟩ : ∃ a : Int, lo % 60000 + 1 = a := ⟨_, rfl⟩
  obtain ⟨b, hb⟩ : ∃ b : Int, a + size % 100 = b := ⟨_, rfl⟩
  have a1 : 1 ≤ a ∧ a ≤ 60001 := by omega
  have b1 : a ≤ b ∧ b ≤ 60101 := by omega
  by_cases h40 : l ≤ 40
  case neg =>
    obtain ⟨xp, xi, xn, xo, xt⟩ := x
    go_enter Try.func7, Try.ntmps7
    go_wp2_with (first
      | (go_at_call 18; refine (awake17_any _).mono ?_; rintro e w' ⟨rfl, ⟨osj, dj, rfl⟩⟩))
    go_ret
    exact ⟨ret_bool rfl, by ((try simp only [World.junk_junk, Array.append_assoc]); (repeat (first | with_reducible exact Junk.refl _ | with_reducible exact Junk.app _ _ _ _ _ | with_reducible exact Junk.app2 _ _ _ _ _ _ | with_reducible exact Junk.app3 _ _ _ _ _ _ _ | with_reducible exact Junk.app4 _ _ _ _ _ _ _ _ | with_reducible exact Junk.app5 _ _ _ _ _ _ _ _ _ | with_reducible apply Junk.alloc | with_reducible apply Junk.junk | with_reducible apply Junk.drew | with_reducible apply Junk.drewN)))⟩
  cases hr : natRight a b L with
  | false =>
    obtain ⟨xp, xi, xn, xo, xt⟩ := x
    go_enter Try.func7, Try.ntmps7
    go_wp2_with (first
      | (go_at_call 18; refine (awake17_any _).mono ?_; rintro e w' ⟨rfl, ⟨osj, dj, rfl⟩⟩)
      | (go_at_call 19; refine (natRight_any a b oa l c L _ (by omega) hlc HL.out (HS.out.on (by ((try simp only [World.junk_junk, Array.append_assoc]); (repeat (first | with_reducible exact Junk.refl _ | with_reducible exact Junk.app _ _ _ _ _ | with_reducible exact Junk.app2 _ _ _ _ _ _ | with_reducible exact Junk.app3 _ _ _ _ _ _ _ | with_reducible exact Junk.app4 _ _ _ _ _ _ _ _ | with_reducible exact Junk.app5 _ _ _ _ _ _ _ _ _ | with_reducible apply Junk.alloc | with_reducible apply Junk.junk | with_reducible apply Junk.drew | with_reducible apply Junk.drewN)))))).mono ?_; rintro e w' ⟨rfl, ⟨osr, dr, rfl⟩⟩; rw [hr]))
    go_ret
    exact ⟨ret_bool rfl, by ((try simp only [World.junk_junk, Array.append_assoc]); (repeat (first | with_reducible exact Junk.refl _ | with_reducible exact Junk.app _ _ _ _ _ | with_reducible exact Junk.app2 _ _ _ _ _ _ | with_reducible exact Junk.app3 _ _ _ _ _ _ _ | with_reducible exact Junk.app4 _ _ _ _ _ _ _ _ | with_reducible exact Junk.app5 _ _ _ _ _ _ _ _ _ | with_reducible apply Junk.alloc | with_reducible apply Junk.junk | with_reducible apply Junk.drew | with_reducible apply Junk.drewN)))⟩
  | true =>
    have hpl := natProto_plain a b L x D hr
    have ask1 := fun w1 h => ask_any a b oa l c L x D w1 (by omega) hlc HL.out h HN.out hD
    obtain ⟨n, hnn⟩ : ∃ n, n = (L.filter fun y => y.proto == x.proto).length := ⟨_, rfl⟩
    have hn9 : n ≤ 40 := by rw [hnn]; exact Nat.le_trans (List.length_filter_le _ _) (by rw [HL.out]; exact h40)
    have ask2 := fun w1 ob cap hcap h hnil => ask_any a b ob n cap (L.filter fun y => y.proto == x.proto) x D w1 (by omega) hcap hnn.symm h hnil hD
    obtain ⟨⟨R, p, e⟩, hR⟩ : ∃ R, R = askP a b L x D := ⟨_, rfl⟩
    obtain ⟨⟨R2, p2, e2⟩, hR2⟩ : ∃ R, R = askP a b (L.filter fun y => y.proto == x.proto) x D := ⟨_, rfl⟩
    rw [← hR, ← hR2] at hpl
    cases hpl
    rw [← hR] at ask1
    rw [← hR2] at ask2
    have HR := Lib.hid hr
    have A1 := Lib.hid ask1
    have A2 := Lib.hid ask2
    have HNN := Lib.hid hnn
    clear hr hR hR2 ask1 ask2 hnn
    obtain ⟨xp, xi, xn, xo, xt⟩ := x
    go_enter Try.func7, Try.ntmps7
    go_wp2_with (first
      | (go_at_call 18; refine (awake17_any _).mono ?_; rintro e w' ⟨rfl, ⟨osj, dj, rfl⟩⟩)
      | (go_at_call 19; refine (natRight_any a b oa l c L _ (by omega) hlc HL.out (HS.out.on (by ((try simp only [World.junk_junk, Array.append_assoc]); (repeat (first | with_reducible exact Junk.refl _ | with_reducible exact Junk.app _ _ _ _ _ | with_reducible exact Junk.app2 _ _ _ _ _ _ | with_reducible exact Junk.app3 _ _ _ _ _ _ _ | with_reducible exact Junk.app4 _ _ _ _ _ _ _ _ | with_reducible exact Junk.app5 _ _ _ _ _ _ _ _ _ | with_reducible apply Junk.alloc | with_reducible apply Junk.junk | with_reducible apply Junk.drew | with_reducible apply Junk.drewN)))))).mono ?_; rintro e w' ⟨rfl, ⟨osr, dr, rfl⟩⟩; rw [HR.out]))
    go_loopw [13, 14] (fun v i wr => ∃ (k m : Nat) (M : List Ln) (ob : Option Addr) (cap : Nat), v = .slice ob m cap ∧ i = .int .i64 (k : Int) ∧ Junk (w.alloc (.cells #[.int .i64 xp, .int .u32 xi, .int .i64 xn, .int .i64 xo, .int .i64 xt] 39)) wr ∧ Own (w.alloc (.cells #[.int .i64 xp, .int .u32 xi, .int .i64 xn, .int .i64 xo, .int .i64 xt] 39)).heap.size wr 39 5 ob cap m (lnsL M) ∧ Hid (M = (L.take k).filter fun z => z.proto == xp) ∧ m ≤ k ∧ k ≤ l) (fun _ i _ => l + 1 - (intOf i).toNat)
    case atStart => exact ⟨0, 0, [], none, 0, rfl, rfl, by ((try simp only [World.junk_junk, Array.append_assoc]); (repeat (first | with_reducible exact Junk.refl _ | with_reducible exact Junk.app _ _ _ _ _ | with_reducible exact Junk.app2 _ _ _ _ _ _ | with_reducible exact Junk.app3 _ _ _ _ _ _ _ | with_reducible exact Junk.app4 _ _ _ _ _ _ _ _ | with_reducible exact Junk.app5 _ _ _ _ _ _ _ _ _ | with_reducible apply Junk.alloc | with_reducible apply Junk.junk | with_reducible apply Junk.drew | with_reducible apply Junk.drewN))), Own.nil _ _ _ _, Lib.hid (by simp), by omega, by omega⟩
    case round =>
      obtain ⟨k, m, M, ob, cap, rfl, rfl, ⟨os, d, rfl⟩, hown, hM, hmk, hk⟩ := hrel
      have Hown := Lib.hid hown
      clear hown
      by_cases hkl : k < l
      · have hk2 : (k : Int) < (l : Int) := by omega
        obtain ⟨y, hy⟩ : ∃ y, L[k]? = some y := ⟨_, List.getElem?_eq_getElem (by rw [HL.out]; exact hkl)⟩
        obtain ⟨bb, off, rfl, hbb, c0, c1, c2, c3, c4⟩ := HS.out k y hy
        have q0 := (World.cell?_alloc_lt w (.cells #[.int .i64 xp, .int .u32 xi, .int .i64 xn, .int .i64 xo, .int .i64 xt] 39) (a := ⟨bb, off + k * 5, none⟩) hbb).trans c0
        have HY := Lib.hid hy
        clear hy
        cases hp : (y.proto == xp) with
        | false =>
          have HM2 := Lib.hid (show M = (L.take (k + 1)).filter fun z => z.proto == xp by rw [hM.out]; exact ownF_no HY.out hp)
          go_wp2
          refine wp_region_junk (by kernel_rfl) (by kernel_rfl) ?_; (repeat (refine wpQuiet_step (fun K hK => ?_); (go_simp; try go_bits); first | (refine hK _ ?_; clear hK K) | (apply Exists.intro; refine ⟨fun _ => ?_, hK _ ?_⟩; (first | fail); clear hK K))); refine wpQuiet_nil ?_; rintro _ ⟨⟨osq, dq⟩, rfl⟩
          go_wp2
          exact ⟨⟨k + 1, m, M, ob, cap, rfl, by go_num, by ((try simp only [World.junk_junk, Array.append_assoc]); (repeat (first | with_reducible exact Junk.refl _ | with_reducible exact Junk.app _ _ _ _ _ | with_reducible exact Junk.app2 _ _ _ _ _ _ | with_reducible exact Junk.app3 _ _ _ _ _ _ _ | with_reducible exact Junk.app4 _ _ _ _ _ _ _ _ | with_reducible exact Junk.app5 _ _ _ _ _ _ _ _ _ | with_reducible apply Junk.alloc | with_reducible apply Junk.junk | with_reducible apply Junk.drew | with_reducible apply Junk.drewN))), Hown.out.on (by ((try simp only [World.junk_junk, Array.append_assoc]); (repeat (first | with_reducible exact Junk.refl _ | with_reducible exact Junk.app _ _ _ _ _ | with_reducible exact Junk.app2 _ _ _ _ _ _ | with_reducible exact Junk.app3 _ _ _ _ _ _ _ | with_reducible exact Junk.app4 _ _ _ _ _ _ _ _ | with_reducible exact Junk.app5 _ _ _ _ _ _ _ _ _ | with_reducible apply Junk.alloc | with_reducible apply Junk.junk | with_reducible apply Junk.drew | with_reducible apply Junk.drewN)))), HM2, by omega, by omega⟩, by simp [intOf]; omega⟩
        | true =>
          have HM2 := Lib.hid (show M ++ [y] = (L.take (k + 1)).filter fun z => z.proto == xp by rw [hM.out]; exact ownF_yes HY.out hp)
          go_wp2
          refine wp_region_junk (by kernel_rfl) (by kernel_rfl) ?_; (repeat (refine wpQuiet_step (fun K hK => ?_); (go_simp; try go_bits); first | (refine hK _ ?_; clear hK K) | (apply Exists.intro; refine ⟨fun _ => ?_, hK _ ?_⟩; (first | fail); clear hK K))); refine wpQuiet_nil ?_; rintro _ ⟨⟨osq, dq⟩, rfl⟩
          go_wp2_with (at_builtin; (refine ap_own (W0 := (w.alloc (.cells #[.int .i64 xp, .int .u32 xi, .int .i64 xn, .int .i64 xo, .int .i64 xt] 39))) rfl _ _ 37 rfl 39 (.agg #[.int .i64 0, .int .u32 0, .int .i64 0, .int .i64 0, .int .i64 0]) 5 40 (by kernel_rfl) rfl (by decide) Try.underlying37 (by ((try simp only [World.junk_junk, Array.append_assoc]); (repeat (first | with_reducible exact Junk.refl _ | with_reducible exact Junk.app _ _ _ _ _ | with_reducible exact Junk.app2 _ _ _ _ _ _ | with_reducible exact Junk.app3 _ _ _ _ _ _ _ | with_reducible exact Junk.app4 _ _ _ _ _ _ _ _ | with_reducible exact Junk.app5 _ _ _ _ _ _ _ _ _ | with_reducible apply Junk.alloc | with_reducible apply Junk.junk | with_reducible apply Junk.drew | with_reducible apply Junk.drewN)))) ob cap m (lnsL M) rfl (Hown.out.on (by ((try simp only [World.junk_junk, Array.append_assoc]); (repeat (first | with_reducible exact Junk.refl _ | with_reducible exact Junk.app _ _ _ _ _ | with_reducible exact Junk.app2 _ _ _ _ _ _ | with_reducible exact Junk.app3 _ _ _ _ _ _ _ | with_reducible exact Junk.app4 _ _ _ _ _ _ _ _ | with_reducible exact Junk.app5 _ _ _ _ _ _ _ _ _ | with_reducible apply Junk.alloc | with_reducible apply Junk.junk | with_reducible apply Junk.drew | with_reducible apply Junk.drewN))))) _ 1 1 rfl (Ln.cells y) rfl (built_cells (by simp)) (fun h => by cases h) (Ln.one _) (by simp only [maxLen]; omega) (by omega) ?_; intro oa' cap' os' d' hown' _; rw [lnsL_one] at hown'; have Hown2 := Lib.hid hown'; clear hown'))
          exact ⟨⟨k + 1, m + 1, M ++ [y], oa', cap', rfl, by go_num, by ((try simp only [World.junk_junk, Array.append_assoc]); (repeat (first | with_reducible exact Junk.refl _ | with_reducible exact Junk.app _ _ _ _ _ | with_reducible exact Junk.app2 _ _ _ _ _ _ | with_reducible exact Junk.app3 _ _ _ _ _ _ _ | with_reducible exact Junk.app4 _ _ _ _ _ _ _ _ | with_reducible exact Junk.app5 _ _ _ _ _ _ _ _ _ | with_reducible apply Junk.alloc | with_reducible apply Junk.junk | with_reducible apply Junk.drew | with_reducible apply Junk.drewN))), Hown2.out, HM2, by omega, by omega⟩, by simp [intOf]; omega⟩
      · have hk2 : ¬ (k : Int) < (l : Int) := by omega
        obtain rfl : k = l := by omega
        have HE := Lib.hid (show M = L.filter (fun z => z.proto == xp) by rw [hM.out, ← HL.out, List.take_length])
        obtain rfl : n = m := by rw [HNN.out, ← HE.out]; have := Hown.out.len; rw [lnsL_len] at this; omega
        go_wp2_with (first
          | (go_at_call 20; first | ((with_reducible refine (A1.out _ (HS.out.on (by ((try simp only [World.junk_junk, Array.append_assoc]); (repeat (first | with_reducible exact Junk.refl _ | with_reducible exact Junk.app _ _ _ _ _ | with_reducible exact Junk.app2 _ _ _ _ _ _ | with_reducible exact Junk.app3 _ _ _ _ _ _ _ | with_reducible exact Junk.app4 _ _ _ _ _ _ _ _ | with_reducible exact Junk.app5 _ _ _ _ _ _ _ _ _ | with_reducible apply Junk.alloc | with_reducible apply Junk.junk | with_reducible apply Junk.drew | with_reducible apply Junk.drewN)))))).mono ?_); rintro e w' ⟨oc1, cc1, rfl, ⟨os1, d1, rfl⟩, _, _⟩) | ((with_reducible refine (A2.out _ _ _ Hown.out.capLe.1 (by rw [← HE.out]; exact own_ls (Hown.out.on (by ((try simp only [World.junk_junk, Array.append_assoc]); (repeat (first | with_reducible exact Junk.refl _ | with_reducible exact Junk.app _ _ _ _ _ | with_reducible exact Junk.app2 _ _ _ _ _ _ | with_reducible exact Junk.app3 _ _ _ _ _ _ _ | with_reducible exact Junk.app4 _ _ _ _ _ _ _ _ | with_reducible exact Junk.app5 _ _ _ _ _ _ _ _ _ | with_reducible apply Junk.alloc | with_reducible apply Junk.junk | with_reducible apply Junk.drew | with_reducible apply Junk.drewN)))))) (own_none Hown.out)).mono ?_); rintro e w' ⟨oc2, cc2, rfl, ⟨os2, d2, rfl⟩, _, _⟩)))
        go_ret
        exact ⟨ret_bool (by simp), by ((try simp only [World.junk_junk, Array.append_assoc]); (repeat (first | with_reducible exact Junk.refl _ | with_reducible exact Junk.app _ _ _ _ _ | with_reducible exact Junk.app2 _ _ _ _ _ _ | with_reducible exact Junk.app3 _ _ _ _ _ _ _ | with_reducible exact Junk.app4 _ _ _ _ _ _ _ _ | with_reducible exact Junk.app5 _ _ _ _ _ _ _ _ _ | with_reducible apply Junk.alloc | with_reducible apply Junk.junk | with_reducible apply Junk.drew | with_reducible apply Junk.drewN)))⟩
theorem natProto_core (W : World) (base : Nat) (v0 v1 v2 v3 v4 : Value) (a0 : Arg Try.prog W base 37 v0) (a1 : Arg Try.prog W base 32 v1) (a2 : Arg Try.prog W base 5 v2) (a3 : Arg Try.prog W base 39 v3) (a4 : Arg Try.prog W base 23 v4) :
    Calls Try.prog 7 #[v0, v1, v2, v3, v4] W fun e W' => e = .returned (.bool true) ∧ Junk W W' := by
  have f_l := a0.slice Try.underlying37
  obtain ⟨l_a, l_l, l_c, l, e_l, lc_l, cm_l, S_l, r_l⟩ := f_l.slice Try.underlying37 (Nat.lt_of_lt_of_eq (by decide : 0 < 5) (by kernel_rfl)); cases e_l
  obtain ⟨lo, rfl, w_lo⟩ := a1.int Try.underlying32
  obtain ⟨size, rfl, w_size⟩ := a2.int Try.underlying5
  obtain ⟨cs_x, rfl, h_x⟩ := a3.struct Try.underlying39
  obtain ⟨hl_x, hf_x⟩ := h_x.fields1 Try.underlying39 (by kernel_rfl) (n := 5) (by kernel_rfl)
  obtain ⟨x_Proto, lx0, e_x0⟩ : ∃ x l, cs_x = x :: l := by cases cs_x with | nil => simp at hl_x | cons x l => exact ⟨x, l, rfl⟩
  subst e_x0
  obtain ⟨x_In, lx1, e_x1⟩ : ∃ x l, lx0 = x :: l := by cases lx0 with | nil => simp at hl_x | cons x l => exact ⟨x, l, rfl⟩
  subst e_x1
  obtain ⟨x_Inport, lx2, e_x2⟩ : ∃ x l, lx1 = x :: l := by cases lx1 with | nil => simp at hl_x | cons x l => exact ⟨x, l, rfl⟩
  subst e_x2
  obtain ⟨x_Port, lx3, e_x3⟩ : ∃ x l, lx2 = x :: l := by cases lx2 with | nil => simp at hl_x | cons x l => exact ⟨x, l, rfl⟩
  subst e_x3
  obtain ⟨x_Until, lx4, e_x4⟩ : ∃ x l, lx3 = x :: l := by cases lx3 with | nil => simp at hl_x | cons x l => exact ⟨x, l, rfl⟩
  subst e_x4
  obtain rfl : lx4 = [] := by simpa using hl_x
  have f_x0 : Cells Try.prog W 3 [x_Proto] := hf_x 0 _ rfl
  have f_x1 : Cells Try.prog W 23 [x_In] := hf_x 1 _ rfl
  have f_x2 : Cells Try.prog W 3 [x_Inport] := hf_x 2 _ rfl
  have f_x3 : Cells Try.prog W 3 [x_Port] := hf_x 3 _ rfl
  have f_x4 : Cells Try.prog W 3 [x_Until] := hf_x 4 _ rfl
  clear hf_x hl_x
  obtain ⟨x_Proto, e_x_Proto, w_x_Proto⟩ := f_x0.int Try.underlying3; cases e_x_Proto
  obtain ⟨x_In, e_x_In, w_x_In⟩ := f_x1.int Try.underlying23; cases e_x_In
  obtain ⟨x_Inport, e_x_Inport, w_x_Inport⟩ := f_x2.int Try.underlying3; cases e_x_Inport
  obtain ⟨x_Port, e_x_Port, w_x_Port⟩ := f_x3.int Try.underlying3; cases e_x_Port
  obtain ⟨x_Until, e_x_Until, w_x_Until⟩ := f_x4.int Try.underlying3; cases e_x_Until
  obtain ⟨draw, rfl, w_draw⟩ := a4.int Try.underlying23
  obtain ⟨L, hL, hS, hwf⟩ := loans_of S_l r_l
  have b_draw := bounds_u32 w_draw
  obtain ⟨D, rfl⟩ : ∃ D : Nat, draw = (D : Int) := ⟨draw.toNat, by omega⟩
  exact natProto_walk L lo size ⟨x_Proto, x_In, x_Inport, x_Port, x_Until⟩ D l_a l_l l_c W hL lc_l hS (Cells.nil_slice Try.underlying37 f_l) (bounds_u16 w_lo) (bounds_u8 w_size) (by omega)
set_option maxRecDepth 100000 in
theorem natProto_lifted (os : Os) (started : os.Started) (H : Type) (enc : TypeId × Value → H) :
    ReturnsInHanded {} Try.checked os 7 .any (Rows.natProtoSpec.pre6 enc Try.prog Try.f7 Rows.natProtoRow.domain false) (Rows.natProtoSpec.post enc Try.prog Try.f7 false true false false) := by
  refine returnsInHanded_of_change (C := Try.checked) (by kernel_rfl) started (by kernel_rfl) Try.func7
    (ChangeSpec.witness6 (enc := enc) (C := Try.checked) false ⟨#[], #[.slice none 0 0, .int .u16 0, .int .u8 0, .agg #[.int .i64 0, .int .u32 0, .int .i64 0, .int .i64 0, .int .i64 0], .int .u32 0], []⟩ 8 (by kernel_rfl) (by kernel_rfl) (by kernel_rfl) (by kernel_rfl)) ?_
  intro W base args ds gs before hval hW _ _
  obtain ⟨p, q, hA, _, _, _, _⟩ := id hW
  have hargs : Args Try.prog W base Try.f7.params.toList args.toList := args_of (fun j t v h1 h2 => hval j t v (by simpa using h1) (by simpa using h2)) hA
  rw [Try.params7] at hargs
  obtain ⟨v0, l0, e0, a0, r0⟩ := args_cons hargs
  obtain ⟨v1, l1, e1, a1, r1⟩ := args_cons r0
  obtain ⟨v2, l2, e2, a2, r2⟩ := args_cons r1
  obtain ⟨v3, l3, e3, a3, r3⟩ := args_cons r2
  obtain ⟨v4, l4, e4, a4, r4⟩ := args_cons r3
  have hn := args_nil r4
  have he : args = #[v0, v1, v2, v3, v4] := by
    apply Array.ext'
    simp only [e0, e1, e2, e3, e4, hn]
  subst he
  exact (natProto_core W base v0 v1 v2 v3 v4 a0 a1 a2 a3 a4).mono fun e W' ⟨he, hj⟩ => ⟨_, he, post_true (tb := 4) (by kernel_rfl) (by kernel_rfl) rfl (by kernel_rfl) rfl hW (fun hg hl => by
    subst hg
    match ds, hl with
    | [_, _, _, _, _], _ => exact ⟨rfl, rfl, rfl⟩) hj⟩
theorem natProto_holds : Rows.NatProtoSaid :=
  OpenClaim.holds_of_wide 7 Try.f7 rfl rfl rfl rfl rfl rfl rfl ⟨rfl, rfl, rfl, rfl, rfl⟩ rfl rfl rfl rfl rfl (by kernel_rfl) Try.func7 (by kernel_rfl)
    (of_decide_eq_true (by kernel_rfl)) (by unfold Func.isWrapper; rw [if_neg (of_decide_eq_false (by kernel_rfl))]; exact ⟨rfl, rfl⟩)
    (fun os started H enc _ => natProto_lifted os started H enc)

end Go.Proofs.Ytambpmbgfjefcaa
