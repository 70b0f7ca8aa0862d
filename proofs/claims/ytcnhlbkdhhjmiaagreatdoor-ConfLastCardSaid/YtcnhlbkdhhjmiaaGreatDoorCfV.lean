/- Right configurations. -/
import Derived.Test.YtcnhlbkdhhjmiaaGreatDoorCfO
set_option linter.unusedVariables false
set_option maxRecDepth 100000
set_option linter.unusedSimpArgs false
namespace Go.Proofs.YtcnhlbkdhhjmiaaGreatDoor
open Go.RowKit
variable {L L' : Nat → Prop} {w w' w'' : World}
/-- A configuration's lists where they lie. -/
structure CfIn (w : World) (f : Cf) (o0 : Option Addr) (c0 : Nat) (o1 : Option Addr) (c1 : Nat) (o6 : Option Addr) (c6 : Nat) : Prop where
  s0 : RosAt w o0 f.routes
  s1 : RusAt w o1 f.rules
  s6 : FosAt w o6 f.fwds
  l0 : f.routes.length ≤ 1000000 ∧ f.routes.length ≤ c0
  l1 : f.rules.length ≤ 1000000 ∧ f.rules.length ≤ c1
  l6 : f.fwds.length ≤ 1000000 ∧ f.fwds.length ≤ c6
theorem fcont_any (oa : Option Addr) (l c : Nat) (M : List Fo) (p q t : Int) (a : Nat) (x : Bool) (g : Nat) (w : World) (hl : l ≤ 1000000) (hL : M.length = l) (hS : FosAt w oa M) (h0 : w.cell? ⟨g, 0, none⟩ = some (.int .i64 p)) (h1 : w.cell? ⟨g, 1, none⟩ = some (.int .i64 q)) :
    Calls Tryz.prog 28 #[.slice oa l c, .func (.func 29) #[] #[.pointer (some ⟨g, 0, none⟩)]] w fun e w' => e = .returned (.bool (M.any fun y => fwSame y ⟨p, q, a, t, x⟩)) ∧ Junk w w' := by
  refine fo_contains oa l c M _ _ w hl hL hS (fun w1 hj y _ => ?_)
  have k : Tch (fun _ => False) w w1 := Tch.of_junk hj
  obtain ⟨yp, yq, ya, yt, yx⟩ := y
  exact fsame_any15 yp yq yt ya yx p q t a x g w1 (k.cell h0 (fun e => e)) (k.cell h1 (fun e => e))
set_option maxHeartbeats 8000000 in
theorem cright_any (X : List Ro) (Y : List Ru) (Z : List Fo) (o0 : Option Addr) (n0 c0 : Nat) (o1 : Option Addr) (n1 c1 : Nat) (ou : Int) (pu : Nat) (lo hi : Int) (o6 : Option Addr) (n6 c6 : Nat) (tc ot bu : Int) (w : World)
    (hX : X.length = n0) (hY : Y.length = n1) (hZ : Z.length = n6) (h : CfIn w ⟨X, Y, ou, pu, lo, hi, Z, tc, ot, bu⟩ o0 c0 o1 c1 o6 c6) :
    Calls Tryz.prog 10 #[.agg #[.slice o0 n0 c0, .slice o1 n1 c1, .int .i64 ou, .int .u32 pu, .int .i64 lo, .int .i64 hi, .slice o6 n6 c6, .int .i64 tc, .int .i64 ot, .int .i64 bu]] w fun e w' => e = .returned (.bool (propB (rightC ⟨X, Y, ou, pu, lo, hi, Z, tc, ot, bu⟩))) ∧ Junk w w' := by
  have hl6 : n6 ≤ 1000000 ∧ n6 ≤ c6 := by have := h.l6; simp only at this; rw [hZ] at this; exact this
  have HS6 := Lib.hid (show FosAt w o6 Z from h.s6)
  have hA : ∀ w1, Junk w w1 → Calls Tryz.prog 24 #[.slice o0 n0 c0] w1 fun e w' => e = .returned (.bool (propB (rtsP X))) ∧ Junk w1 w' := fun w1 hj => rright_any13 o0 n0 c0 X w1 (by have := h.l0; simp only at this; omega) hX (by have := h.l0; simp only at this; omega) (h.s0.on hj)
  have hB : ∀ w1, Junk w w1 → Calls Tryz.prog 25 #[.slice o1 n1 c1] w1 fun e w' => e = .returned (.bool (propB (rusP Y))) ∧ Junk w1 w' := fun w1 hj => uright_any14 o1 n1 c1 Y w1 (by have := h.l1; simp only at this; omega) hY (h.s1.on hj)
  obtain ⟨V, hV⟩ : ∃ V, propB (rightC ⟨X, Y, ou, pu, lo, hi, Z, tc, ot, bu⟩) = V := ⟨_, rfl⟩
  rw [hV]
  have HV := Lib.hid hV
  have HZ := Lib.hid hZ
  have hmf : ∀ (fn : Fn) (first cap : Array Value) (w : World), (Instr.makeFunc fn first cap).run Tryz.prog w = .ok (.func fn first cap) w := fun _ _ _ _ => rfl
  obtain ⟨w7, hw7⟩ : ∃ x, decide (1 ≤ tc ∧ tc ≤ 1048576) = x := ⟨_, rfl⟩
  obtain ⟨w8, hw8⟩ : ∃ x, decide (1 ≤ ot ∧ ot ≤ 1048576) = x := ⟨_, rfl⟩
  obtain ⟨w9, hw9⟩ : ∃ x, decide (0 ≤ bu ∧ bu ≤ 1000) = x := ⟨_, rfl⟩
  have HW7 := Lib.hid (fun w => show Calls Tryz.prog 26 #[.int .i64 tc, .int .i64 1, .int .i64 1048576] w fun e w' => e = .returned (.bool w7) ∧ w' = w from hw7 ▸ within_any tc 1 1048576 w)
  have HW8 := Lib.hid (fun w => show Calls Tryz.prog 26 #[.int .i64 ot, .int .i64 1, .int .i64 1048576] w fun e w' => e = .returned (.bool w8) ∧ w' = w from hw8 ▸ within_any ot 1 1048576 w)
  have HW9 := Lib.hid (fun w => show Calls Tryz.prog 26 #[.int .i64 bu, .int .i64 0, .int .i64 1000] w fun e w' => e = .returned (.bool w9) ∧ w' = w from hw9 ▸ within_any bu 0 1000 w)
  have HQ := Lib.hid (And.intro hw7 (And.intro hw8 hw9))
  have hW3 : ∀ w, Calls Tryz.prog 26 #[.int .i64 ou, .int .i64 0, .int .i64 7] w fun e w' => e = .returned (.bool (decide (0 ≤ ou ∧ ou ≤ 7))) ∧ w' = w := fun w => within_any ou 0 7 w
  clear h hV hX hY hZ hw7 hw8 hw9
  by_cases k1 : rtsP X
  case neg =>
    rw [propB_false k1] at hA
    have HA := Lib.hid hA
    have HB := Lib.hid hB
    have HW3 := Lib.hid hW3
    clear hA hB hW3
    have he : V = false := by rw [← HV.out]; exact propB_false (fun h => k1 h.1)
    clear k1
    go_enter Tryz.func10, Tryz.ntmps10
    go_wp2_with (first
      | (go_at_call 24; (refine (HA.out _ (by (exact jkc))).mono ?_; rintro e v1 ⟨rfl, ⟨os1, d1, rfl⟩⟩))
      | (go_at_call 25; (refine (HB.out _ (by (exact jkc))).mono ?_; rintro e v2 ⟨rfl, ⟨os2, d2, rfl⟩⟩))
      | (go_at_call 26; first | ((with_reducible refine (HW3.out _).mono ?_); rintro e v3 ⟨rfl, rfl⟩) | ((with_reducible refine (HW7.out _).mono ?_); rintro e v3 ⟨rfl, rfl⟩) | ((with_reducible refine (HW8.out _).mono ?_); rintro e v3 ⟨rfl, rfl⟩) | ((with_reducible refine (HW9.out _).mono ?_); rintro e v3 ⟨rfl, rfl⟩)))
    go_ret
    exact ⟨by rw [he] <;> rfl, by (exact jkc)⟩
  rw [propB_true k1] at hA
  by_cases k2 : rusP Y
  case neg =>
    rw [propB_false k2] at hB
    have HA := Lib.hid hA
    have HB := Lib.hid hB
    have HW3 := Lib.hid hW3
    clear hA hB hW3
    have he : V = false := by rw [← HV.out]; exact propB_false (fun h => k2 h.2.1)
    clear k1 k2
    go_enter Tryz.func10, Tryz.ntmps10
    go_wp2_with (first
      | (go_at_call 24; (refine (HA.out _ (by (exact jkc))).mono ?_; rintro e v1 ⟨rfl, ⟨os1, d1, rfl⟩⟩))
      | (go_at_call 25; (refine (HB.out _ (by (exact jkc))).mono ?_; rintro e v2 ⟨rfl, ⟨os2, d2, rfl⟩⟩))
      | (go_at_call 26; first | ((with_reducible refine (HW3.out _).mono ?_); rintro e v3 ⟨rfl, rfl⟩) | ((with_reducible refine (HW7.out _).mono ?_); rintro e v3 ⟨rfl, rfl⟩) | ((with_reducible refine (HW8.out _).mono ?_); rintro e v3 ⟨rfl, rfl⟩) | ((with_reducible refine (HW9.out _).mono ?_); rintro e v3 ⟨rfl, rfl⟩)))
    go_ret
    exact ⟨by rw [he] <;> rfl, by (exact jkc)⟩
  rw [propB_true k2] at hB
  by_cases k3 : 0 ≤ ou ∧ ou ≤ 7
  case neg =>
    rw [decide_eq_false k3] at hW3
    have HA := Lib.hid hA
    have HB := Lib.hid hB
    have HW3 := Lib.hid hW3
    clear hA hB hW3
    have he : V = false := by rw [← HV.out]; exact propB_false (fun h => k3 h.2.2.1)
    clear k1 k2 k3
    go_enter Tryz.func10, Tryz.ntmps10
    go_wp2_with (first
      | (go_at_call 24; (refine (HA.out _ (by (exact jkc))).mono ?_; rintro e v1 ⟨rfl, ⟨os1, d1, rfl⟩⟩))
      | (go_at_call 25; (refine (HB.out _ (by (exact jkc))).mono ?_; rintro e v2 ⟨rfl, ⟨os2, d2, rfl⟩⟩))
      | (go_at_call 26; first | ((with_reducible refine (HW3.out _).mono ?_); rintro e v3 ⟨rfl, rfl⟩) | ((with_reducible refine (HW7.out _).mono ?_); rintro e v3 ⟨rfl, rfl⟩) | ((with_reducible refine (HW8.out _).mono ?_); rintro e v3 ⟨rfl, rfl⟩) | ((with_reducible refine (HW9.out _).mono ?_); rintro e v3 ⟨rfl, rfl⟩)))
    go_ret
    exact ⟨by rw [he] <;> rfl, by (exact jkc)⟩
  rw [decide_eq_true k3] at hW3
  by_cases k4 : ¬ lo < 1
  case neg =>
    have HA := Lib.hid hA
    have HB := Lib.hid hB
    have HW3 := Lib.hid hW3
    clear hA hB hW3
    have he : V = false := by rw [← HV.out]; exact propB_false (fun h => k4 (by have := h.2.2.2.1.1; simp only at this; omega))
    have k4b := Classical.not_not.1 k4
    clear k1 k2 k3
    go_enter Tryz.func10, Tryz.ntmps10
    go_wp2_with (first
      | (go_at_call 24; (refine (HA.out _ (by (exact jkc))).mono ?_; rintro e v1 ⟨rfl, ⟨os1, d1, rfl⟩⟩))
      | (go_at_call 25; (refine (HB.out _ (by (exact jkc))).mono ?_; rintro e v2 ⟨rfl, ⟨os2, d2, rfl⟩⟩))
      | (go_at_call 26; first | ((with_reducible refine (HW3.out _).mono ?_); rintro e v3 ⟨rfl, rfl⟩) | ((with_reducible refine (HW7.out _).mono ?_); rintro e v3 ⟨rfl, rfl⟩) | ((with_reducible refine (HW8.out _).mono ?_); rintro e v3 ⟨rfl, rfl⟩) | ((with_reducible refine (HW9.out _).mono ?_); rintro e v3 ⟨rfl, rfl⟩)))
    go_ret
    exact ⟨by rw [he] <;> rfl, by (exact jkc)⟩
  by_cases k5 : ¬ hi < lo
  case neg =>
    have HA := Lib.hid hA
    have HB := Lib.hid hB
    have HW3 := Lib.hid hW3
    clear hA hB hW3
    have he : V = false := by rw [← HV.out]; exact propB_false (fun h => k5 (by have := h.2.2.2.1.2.1; simp only at this; omega))
    have k5b := Classical.not_not.1 k5
    clear k1 k2 k3
    go_enter Tryz.func10, Tryz.ntmps10
    go_wp2_with (first
      | (go_at_call 24; (refine (HA.out _ (by (exact jkc))).mono ?_; rintro e v1 ⟨rfl, ⟨os1, d1, rfl⟩⟩))
      | (go_at_call 25; (refine (HB.out _ (by (exact jkc))).mono ?_; rintro e v2 ⟨rfl, ⟨os2, d2, rfl⟩⟩))
      | (go_at_call 26; first | ((with_reducible refine (HW3.out _).mono ?_); rintro e v3 ⟨rfl, rfl⟩) | ((with_reducible refine (HW7.out _).mono ?_); rintro e v3 ⟨rfl, rfl⟩) | ((with_reducible refine (HW8.out _).mono ?_); rintro e v3 ⟨rfl, rfl⟩) | ((with_reducible refine (HW9.out _).mono ?_); rintro e v3 ⟨rfl, rfl⟩)))
    go_ret
    exact ⟨by rw [he] <;> rfl, by (exact jkc)⟩
  by_cases k6 : ¬ 65535 < hi
  case neg =>
    have HA := Lib.hid hA
    have HB := Lib.hid hB
    have HW3 := Lib.hid hW3
    clear hA hB hW3
    have he : V = false := by rw [← HV.out]; exact propB_false (fun h => k6 (by have := h.2.2.2.1.2.2; simp only at this; omega))
    have k6b := Classical.not_not.1 k6
    clear k1 k2 k3
    go_enter Tryz.func10, Tryz.ntmps10
    go_wp2_with (first
      | (go_at_call 24; (refine (HA.out _ (by (exact jkc))).mono ?_; rintro e v1 ⟨rfl, ⟨os1, d1, rfl⟩⟩))
      | (go_at_call 25; (refine (HB.out _ (by (exact jkc))).mono ?_; rintro e v2 ⟨rfl, ⟨os2, d2, rfl⟩⟩))
      | (go_at_call 26; first | ((with_reducible refine (HW3.out _).mono ?_); rintro e v3 ⟨rfl, rfl⟩) | ((with_reducible refine (HW7.out _).mono ?_); rintro e v3 ⟨rfl, rfl⟩) | ((with_reducible refine (HW8.out _).mono ?_); rintro e v3 ⟨rfl, rfl⟩) | ((with_reducible refine (HW9.out _).mono ?_); rintro e v3 ⟨rfl, rfl⟩)))
    go_ret
    exact ⟨by rw [he] <;> rfl, by (exact jkc)⟩
  by_cases k7 : ¬ (32 : Int) < (n6 : Int)
  case neg =>
    have HA := Lib.hid hA
    have HB := Lib.hid hB
    have HW3 := Lib.hid hW3
    clear hA hB hW3
    have he : V = false := by rw [← HV.out]; exact propB_false (fun h => k7 (by have := h.2.2.2.2.1.1; simp only at this; have := HZ.out; omega))
    have k7b := Classical.not_not.1 k7
    clear k1 k2 k3
    go_enter Tryz.func10, Tryz.ntmps10
    go_wp2_with (first
      | (go_at_call 24; (refine (HA.out _ (by (exact jkc))).mono ?_; rintro e v1 ⟨rfl, ⟨os1, d1, rfl⟩⟩))
      | (go_at_call 25; (refine (HB.out _ (by (exact jkc))).mono ?_; rintro e v2 ⟨rfl, ⟨os2, d2, rfl⟩⟩))
      | (go_at_call 26; first | ((with_reducible refine (HW3.out _).mono ?_); rintro e v3 ⟨rfl, rfl⟩) | ((with_reducible refine (HW7.out _).mono ?_); rintro e v3 ⟨rfl, rfl⟩) | ((with_reducible refine (HW8.out _).mono ?_); rintro e v3 ⟨rfl, rfl⟩) | ((with_reducible refine (HW9.out _).mono ?_); rintro e v3 ⟨rfl, rfl⟩)))
    go_ret
    exact ⟨by rw [he] <;> rfl, by (exact jkc)⟩
  have HA := Lib.hid hA
  have HB := Lib.hid hB
  have HW3 := Lib.hid hW3
  have HK := Lib.hid (And.intro k1 (And.intro k2 k3))
  clear hA hB hW3 k1 k2 k3
  go_enter Tryz.func10, Tryz.ntmps10
  go_wp2_with (first
    | (go_at_call 24; (refine (HA.out _ (by (exact jkc))).mono ?_; rintro e v1 ⟨rfl, ⟨os1, d1, rfl⟩⟩))
    | (go_at_call 25; (refine (HB.out _ (by (exact jkc))).mono ?_; rintro e v2 ⟨rfl, ⟨os2, d2, rfl⟩⟩))
    | (go_at_call 26; first | ((with_reducible refine (HW3.out _).mono ?_); rintro e v3 ⟨rfl, rfl⟩) | ((with_reducible refine (HW7.out _).mono ?_); rintro e v3 ⟨rfl, rfl⟩) | ((with_reducible refine (HW8.out _).mono ?_); rintro e v3 ⟨rfl, rfl⟩) | ((with_reducible refine (HW9.out _).mono ?_); rintro e v3 ⟨rfl, rfl⟩)))
  go_loopw [3, 4, 47] (fun v3 v4 v10 wr => ∃ i : Nat, v10 = .int .i64 (i : Int) ∧ Junk (w.alloc (.cells #[.slice o0 n0 c0, .slice o1 n1 c1, .int .i64 ou, .int .u32 pu, .int .i64 lo, .int .i64 hi, .slice o6 n6 c6, .int .i64 tc, .int .i64 ot, .int .i64 bu] 27)) wr ∧ i ≤ n6 ∧ Hid (∀ j, j < i → ∀ r, Z[j]? = some r → fwMay lo hi r = true ∧ ∀ k x, k < j → Z[k]? = some x → fwSame x r = false)) (fun _ _ v _ => n6 + 1 - (intOf v).toNat)
  case atStart => exact ⟨0, rfl, by (exact jkc), by omega, Lib.hid (fun j hj => by omega)⟩
  case round =>
    obtain ⟨i, rfl, ⟨os, d, rfl⟩, hik, hN⟩ := hrel
    by_cases hil : i < n6
    case neg =>
      have hi2 : ¬ (i : Int) < (n6 : Int) := by omega
      obtain rfl : i = n6 := by omega
      have he : V = (w7 && w8 && w9) := by
        rw [← HV.out, Bool.eq_iff_iff, propB_iff]
        obtain ⟨q7, q8, q9⟩ := HQ.out
        rw [← q7, ← q8, ← q9]
        simp only [Bool.and_eq_true, decide_eq_true_eq]
        constructor
        · intro h
          exact ⟨⟨h.2.2.2.2.2.1, h.2.2.2.2.2.2.1⟩, h.2.2.2.2.2.2.2⟩
        · rintro ⟨⟨h7, h8⟩, h9⟩
          refine ⟨HK.out.1, HK.out.2.1, HK.out.2.2, ⟨by simp only; omega, by simp only; omega, by simp only; omega⟩, ⟨by simp only; have := HZ.out; omega, fun j r hj => hN.out j (by rw [← HZ.out]; exact (List.getElem?_eq_some_iff.1 hj).1) r hj⟩, h7, h8, h9⟩
      go_wp2_with (go_at_call 26; first | ((with_reducible refine (HW3.out _).mono ?_); rintro e v3 ⟨rfl, rfl⟩) | ((with_reducible refine (HW7.out _).mono ?_); rintro e v3 ⟨rfl, rfl⟩) | ((with_reducible refine (HW8.out _).mono ?_); rintro e v3 ⟨rfl, rfl⟩) | ((with_reducible refine (HW9.out _).mono ?_); rintro e v3 ⟨rfl, rfl⟩))
      all_goals go_ret
      all_goals refine ⟨?_, by (exact jkc)⟩
      all_goals (rw [he]; first | rfl | (simp_all; done) | trace_state)
    have hi2 : (i : Int) < (n6 : Int) := by omega
    have hic : (i : Int) ≤ (c6 : Int) := by omega
    obtain ⟨r, hr⟩ : ∃ r, Z[i]? = some r := ⟨_, List.getElem?_eq_getElem (by rw [HZ.out]; exact hil)⟩
    obtain ⟨b, off, rfl, hb, c0', c1', c2', c3', c4'⟩ := HS6.out i r hr
    have HR := Lib.hid hr
    clear hr
    obtain ⟨xp, xq, xa, xt, xx⟩ := r
    dsimp only at c0' c1' c2' c3' c4'
    have HT := Lib.hid (show (Z.take i).length = i by rw [List.length_take, HZ.out]; omega)
    cases hm : fwMay lo hi ⟨xp, xq, xa, xt, xx⟩ with
    | false =>
      have HM := Lib.hid hm
      have he : V = false := by rw [← HV.out]; exact propB_false (fun h => by have := (h.2.2.2.2.1.2 i _ HR.out).1; simp only at this; rw [HM.out] at this; cases this)
      go_wp2_with (go_at_call 27; (refine (fmay_any15 _ _ _ _ _ _ _ _ _ _ _ _ _ _ _ _ _ _ _ _ _ _).mono ?_; rintro e w1 ⟨rfl, ⟨os1, d1, rfl⟩⟩); rw [HM.out])
      go_ret
      exact ⟨by rw [he] <;> rfl, by (exact jkc)⟩
    | true =>
      have HM := Lib.hid hm
      cases ha : (Z.take i).any (fun y => fwSame y ⟨xp, xq, xa, xt, xx⟩) with
      | true =>
        have HAA := Lib.hid ha
        have he : V = false := by
          rw [← HV.out]
          refine propB_false (fun h => ?_)
          obtain ⟨y, hy, hy2⟩ := List.any_eq_true.1 HAA.out
          obtain ⟨k, hk⟩ := List.mem_iff_getElem?.1 hy
          have hki : k < i := by have := (List.getElem?_eq_some_iff.1 hk).1; rw [HT.out] at this; exact this
          rw [List.getElem?_take_of_lt hki] at hk
          have := (h.2.2.2.2.1.2 i _ HR.out).2 k y hki hk
          rw [this] at hy2
          cases hy2
        go_wp2_with (first
          | (go_at_call 27; (refine (fmay_any15 _ _ _ _ _ _ _ _ _ _ _ _ _ _ _ _ _ _ _ _ _ _).mono ?_; rintro e w1 ⟨rfl, ⟨os1, d1, rfl⟩⟩); rw [HM.out])
          | (go_at_call 28; (refine (fcont_any _ i c6 (Z.take i) xp xq xt xa xx _ _ (by omega) HT.out ((HS6.out.on (by (exact jkc))).take i) (by simp [go_sem]) (by simp [go_sem])).mono ?_; rintro e w2 ⟨rfl, ⟨os2, d2, rfl⟩⟩); rw [HAA.out]))
        go_ret
        exact ⟨by rw [he] <;> rfl, by (exact jkc)⟩
      | false =>
        have HAA := Lib.hid ha
        have HN2 := Lib.hid (show ∀ j, j < i + 1 → ∀ r, Z[j]? = some r → fwMay lo hi r = true ∧ ∀ k x, k < j → Z[k]? = some x → fwSame x r = false from fun j hj r hr => by
          by_cases h : j = i
          · subst h
            rw [HR.out] at hr
            cases hr
            refine ⟨HM.out, fun k x hk hx => ?_⟩
            have := List.any_eq_false.1 HAA.out x (List.mem_of_getElem? (i := k) (by rw [List.getElem?_take_of_lt hk]; exact hx))
            simpa using this
          · exact hN.out j (by omega) r hr)
        go_wp2_with (first
          | (go_at_call 27; (refine (fmay_any15 _ _ _ _ _ _ _ _ _ _ _ _ _ _ _ _ _ _ _ _ _ _).mono ?_; rintro e w1 ⟨rfl, ⟨os1, d1, rfl⟩⟩); rw [HM.out])
          | (go_at_call 28; (refine (fcont_any _ i c6 (Z.take i) xp xq xt xa xx _ _ (by omega) HT.out ((HS6.out.on (by (exact jkc))).take i) (by simp [go_sem]) (by simp [go_sem])).mono ?_; rintro e w2 ⟨rfl, ⟨os2, d2, rfl⟩⟩); rw [HAA.out]))
        exact ⟨⟨i + 1, by go_num, by (exact jkc), by omega, HN2⟩, by simp [intOf]; omega⟩
end Go.Proofs.YtcnhlbkdhhjmiaaGreatDoor
