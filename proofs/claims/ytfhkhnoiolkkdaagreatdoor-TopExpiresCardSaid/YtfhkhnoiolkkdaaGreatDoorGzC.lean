/- gate's visit: on, turned, of a datagram. -/
import Derived.Test.YtfhkhnoiolkkdaaGreatDoorXfO
import Derived.LoopN
import Derived.Test.YtfhkhnoiolkkdaaGreatDoorXnF
import Derived.Deep.DeepCutAuto
import Derived.Test.YtfhkhnoiolkkdaaGreatDoorXnA
import Derived.Test.YtfhkhnoiolkkdaaGreatDoorMixP
set_option linter.unusedVariables false
set_option maxRecDepth 100000
set_option linter.unusedSimpArgs false
namespace Go.Proofs.YtfhkhnoiolkkdaaGreatDoor
open Go.RowKit
variable {L L' : Nat → Prop} {w w' w'' : World}
structure CfIn (w : World) (f : Cf) (o0 : Option Addr) (c0 : Nat) (o1 : Option Addr) (c1 : Nat) (o6 : Option Addr) (c6 : Nat) : Prop where
  s0 : RosAt w o0 f.routes
  s1 : RusAt w o1 f.rules
  s6 : FosAt w o6 f.fwds
  l0 : f.routes.length ≤ 1000000 ∧ f.routes.length ≤ c0
  l1 : f.rules.length ≤ 1000000 ∧ f.rules.length ≤ c1
  l6 : f.fwds.length ≤ 1000000 ∧ f.fwds.length ≤ c6
theorem fcont_any (oa : Option Addr) (l c : Nat) (M : List Fo) (p q t : Int) (a : Nat) (x : Bool) (g : Nat) (w : World) (hl : l ≤ 1000000) (hL : M.length = l) (hS : FosAt w oa M) (h0 : w.cell? ⟨g, 0, none⟩ = some (.int .i64 p)) (h1 : w.cell? ⟨g, 1, none⟩ = some (.int .i64 q)) :
    Calls Tryz.prog 104 #[.slice oa l c, .func (.func 105) #[] #[.pointer (some ⟨g, 0, none⟩)]] w fun e w' => e = .returned (.bool (M.any fun y => fwSame y ⟨p, q, a, t, x⟩)) ∧ Junk w w' := by
  refine fo_contains oa l c M _ _ w hl hL hS (fun w1 hj y _ => ?_)
  have k : Tch (fun _ => False) w w1 := Tch.of_junk hj
  obtain ⟨yp, yq, ya, yt, yx⟩ := y
  exact fsame_any15 yp yq yt ya yx p q t a x g w1 (k.cell h0 (fun e => e)) (k.cell h1 (fun e => e))
set_option maxHeartbeats 8000000 in
theorem cright_any (X : List Ro) (Y : List Ru) (Z : List Fo) (o0 : Option Addr) (n0 c0 : Nat) (o1 : Option Addr) (n1 c1 : Nat) (ou : Int) (pu : Nat) (lo hi : Int) (o6 : Option Addr) (n6 c6 : Nat) (tc ot bu : Int) (w : World)
    (hX : X.length = n0) (hY : Y.length = n1) (hZ : Z.length = n6) (h : CfIn w ⟨X, Y, ou, pu, lo, hi, Z, tc, ot, bu⟩ o0 c0 o1 c1 o6 c6) :
    Calls Tryz.prog 49 #[.agg #[.slice o0 n0 c0, .slice o1 n1 c1, .int .i64 ou, .int .u32 pu, .int .i64 lo, .int .i64 hi, .slice o6 n6 c6, .int .i64 tc, .int .i64 ot, .int .i64 bu]] w fun e w' => e = .returned (.bool (propB (rightC ⟨X, Y, ou, pu, lo, hi, Z, tc, ot, bu⟩))) ∧ Junk w w' := by
  have hl6 : n6 ≤ 1000000 ∧ n6 ≤ c6 := by have := h.l6; simp only at this; rw [hZ] at this; exact this
  have HS6 := Lib.hid (show FosAt w o6 Z from h.s6)
  have hA : ∀ w1, Junk w w1 → Calls Tryz.prog 100 #[.slice o0 n0 c0] w1 fun e w' => e = .returned (.bool (propB (rtsP X))) ∧ Junk w1 w' := fun w1 hj => rright_any13 o0 n0 c0 X w1 (by have := h.l0; simp only at this; omega) hX (by have := h.l0; simp only at this; omega) (h.s0.on hj)
  have hB : ∀ w1, Junk w w1 → Calls Tryz.prog 101 #[.slice o1 n1 c1] w1 fun e w' => e = .returned (.bool (propB (rusP Y))) ∧ Junk w1 w' := fun w1 hj => uright_any14 o1 n1 c1 Y w1 (by have := h.l1; simp only at this; omega) hY (h.s1.on hj)
  obtain ⟨V, hV⟩ : ∃ V, propB (rightC ⟨X, Y, ou, pu, lo, hi, Z, tc, ot, bu⟩) = V := ⟨_, rfl⟩
  rw [hV]
  have HV := Lib.hid hV
  have HZ := Lib.hid hZ
  have hmf : ∀ (fn : Fn) (first cap : Array Value) (w : World), (Instr.makeFunc fn first cap).run Tryz.prog w = .ok (.func fn first cap) w := fun _ _ _ _ => rfl
  obtain ⟨w7, hw7⟩ : ∃ x, decide (1 ≤ tc ∧ tc ≤ 1048576) = x := ⟨_, rfl⟩
  obtain ⟨w8, hw8⟩ : ∃ x, decide (1 ≤ ot ∧ ot ≤ 1048576) = x := ⟨_, rfl⟩
  obtain ⟨w9, hw9⟩ : ∃ x, decide (0 ≤ bu ∧ bu ≤ 1000) = x := ⟨_, rfl⟩
  have HW7 := Lib.hid (fun w => show Calls Tryz.prog 102 #[.int .i64 tc, .int .i64 1, .int .i64 1048576] w fun e w' => e = .returned (.bool w7) ∧ w' = w from hw7 ▸ cwithin_any tc 1 1048576 w)
  have HW8 := Lib.hid (fun w => show Calls Tryz.prog 102 #[.int .i64 ot, .int .i64 1, .int .i64 1048576] w fun e w' => e = .returned (.bool w8) ∧ w' = w from hw8 ▸ cwithin_any ot 1 1048576 w)
  have HW9 := Lib.hid (fun w => show Calls Tryz.prog 102 #[.int .i64 bu, .int .i64 0, .int .i64 1000] w fun e w' => e = .returned (.bool w9) ∧ w' = w from hw9 ▸ cwithin_any bu 0 1000 w)
  have HQ := Lib.hid (And.intro hw7 (And.intro hw8 hw9))
  have hW3 : ∀ w, Calls Tryz.prog 102 #[.int .i64 ou, .int .i64 0, .int .i64 7] w fun e w' => e = .returned (.bool (decide (0 ≤ ou ∧ ou ≤ 7))) ∧ w' = w := fun w => cwithin_any ou 0 7 w
  clear h hV hX hY hZ hw7 hw8 hw9
  by_cases k1 : rtsP X
  case neg =>
    rw [propB_false k1] at hA
    have HA := Lib.hid hA
    have HB := Lib.hid hB
    have HW3 := Lib.hid hW3
    clear hA hB hW3
    have he : V = false := by rw [← HV.out]; exact propB_false (fun h => k1 h.1)
    clear k1
    go_enter Tryz.func49, Tryz.ntmps49
    go_wp2_with (first
      | (go_at_call 100; (refine (HA.out _ (by (exact jkc))).mono ?_; rintro e v1 ⟨rfl, ⟨os1, d1, rfl⟩⟩))
      | (go_at_call 101; (refine (HB.out _ (by (exact jkc))).mono ?_; rintro e v2 ⟨rfl, ⟨os2, d2, rfl⟩⟩))
      | (go_at_call 102; first | ((with_reducible refine (HW3.out _).mono ?_); rintro e v3 ⟨rfl, rfl⟩) | ((with_reducible refine (HW7.out _).mono ?_); rintro e v3 ⟨rfl, rfl⟩) | ((with_reducible refine (HW8.out _).mono ?_); rintro e v3 ⟨rfl, rfl⟩) | ((with_reducible refine (HW9.out _).mono ?_); rintro e v3 ⟨rfl, rfl⟩)))
    go_ret
    exact ⟨by rw [he] <;> rfl, by (exact jkc)⟩
  rw [propB_true k1] at hA
  by_cases k2 : rusP Y
  case neg =>
    rw [propB_false k2] at hB
    have HA := Lib.hid hA
    have HB := Lib.hid hB
    have HW3 := Lib.hid hW3
    clear hA hB hW3
    have he : V = false := by rw [← HV.out]; exact propB_false (fun h => k2 h.2.1)
    clear k1 k2
    go_enter Tryz.func49, Tryz.ntmps49
    go_wp2_with (first
      | (go_at_call 100; (refine (HA.out _ (by (exact jkc))).mono ?_; rintro e v1 ⟨rfl, ⟨os1, d1, rfl⟩⟩))
      | (go_at_call 101; (refine (HB.out _ (by (exact jkc))).mono ?_; rintro e v2 ⟨rfl, ⟨os2, d2, rfl⟩⟩))
      | (go_at_call 102; first | ((with_reducible refine (HW3.out _).mono ?_); rintro e v3 ⟨rfl, rfl⟩) | ((with_reducible refine (HW7.out _).mono ?_); rintro e v3 ⟨rfl, rfl⟩) | ((with_reducible refine (HW8.out _).mono ?_); rintro e v3 ⟨rfl, rfl⟩) | ((with_reducible refine (HW9.out _).mono ?_); rintro e v3 ⟨rfl, rfl⟩)))
    go_ret
    exact ⟨by rw [he] <;> rfl, by (exact jkc)⟩
  rw [propB_true k2] at hB
  by_cases k3 : 0 ≤ ou ∧ ou ≤ 7
  case neg =>
    rw [decide_eq_false k3] at hW3
    have HA := Lib.hid hA
    have HB := Lib.hid hB
    have HW3 := Lib.hid hW3
    clear hA hB hW3
    have he : V = false := by rw [← HV.out]; exact propB_false (fun h => k3 h.2.2.1)
    clear k1 k2 k3
    go_enter Tryz.func49, Tryz.ntmps49
    go_wp2_with (first
      | (go_at_call 100; (refine (HA.out _ (by (exact jkc))).mono ?_; rintro e v1 ⟨rfl, ⟨os1, d1, rfl⟩⟩))
      | (go_at_call 101; (refine (HB.out _ (by (exact jkc))).mono ?_; rintro e v2 ⟨rfl, ⟨os2, d2, rfl⟩⟩))
      | (go_at_call 102; first | ((with_reducible refine (HW3.out _).mono ?_); rintro e v3 ⟨rfl, rfl⟩) | ((with_reducible refine (HW7.out _).mono ?_); rintro e v3 ⟨rfl, rfl⟩) | ((with_reducible refine (HW8.out _).mono ?_); rintro e v3 ⟨rfl, rfl⟩) | ((with_reducible refine (HW9.out _).mono ?_); rintro e v3 ⟨rfl, rfl⟩)))
    go_ret
    exact ⟨by rw [he] <;> rfl, by (exact jkc)⟩
  rw [decide_eq_true k3] at hW3
  by_cases k4 : ¬ lo < 1
  case neg =>
    have HA := Lib.hid hA
    have HB := Lib.hid hB
    have HW3 := Lib.hid hW3
    clear hA hB hW3
    have he : V = false := by rw [← HV.out]; exact propB_false (fun h => k4 (by have := h.2.2.2.1.1; simp only at this; omega))
    have k4b := Classical.not_not.1 k4
    clear k1 k2 k3
    go_enter Tryz.func49, Tryz.ntmps49
    go_wp2_with (first
      | (go_at_call 100; (refine (HA.out _ (by (exact jkc))).mono ?_; rintro e v1 ⟨rfl, ⟨os1, d1, rfl⟩⟩))
      | (go_at_call 101; (refine (HB.out _ (by (exact jkc))).mono ?_; rintro e v2 ⟨rfl, ⟨os2, d2, rfl⟩⟩))
      | (go_at_call 102; first | ((with_reducible refine (HW3.out _).mono ?_); rintro e v3 ⟨rfl, rfl⟩) | ((with_reducible refine (HW7.out _).mono ?_); rintro e v3 ⟨rfl, rfl⟩) | ((with_reducible refine (HW8.out _).mono ?_); rintro e v3 ⟨rfl, rfl⟩) | ((with_reducible refine (HW9.out _).mono ?_); rintro e v3 ⟨rfl, rfl⟩)))
    go_ret
    exact ⟨by rw [he] <;> rfl, by (exact jkc)⟩
  by_cases k5 : ¬ hi < lo
  case neg =>
    have HA := Lib.hid hA
    have HB := Lib.hid hB
    have HW3 := Lib.hid hW3
    clear hA hB hW3
    have he : V = false := by rw [← HV.out]; exact propB_false (fun h => k5 (by have := h.2.2.2.1.2.1; simp only at this; omega))
    have k5b := Classical.not_not.1 k5
    clear k1 k2 k3
    go_enter Tryz.func49, Tryz.ntmps49
    go_wp2_with (first
      | (go_at_call 100; (refine (HA.out _ (by (exact jkc))).mono ?_; rintro e v1 ⟨rfl, ⟨os1, d1, rfl⟩⟩))
      | (go_at_call 101; (refine (HB.out _ (by (exact jkc))).mono ?_; rintro e v2 ⟨rfl, ⟨os2, d2, rfl⟩⟩))
      | (go_at_call 102; first | ((with_reducible refine (HW3.out _).mono ?_); rintro e v3 ⟨rfl, rfl⟩) | ((with_reducible refine (HW7.out _).mono ?_); rintro e v3 ⟨rfl, rfl⟩) | ((with_reducible refine (HW8.out _).mono ?_); rintro e v3 ⟨rfl, rfl⟩) | ((with_reducible refine (HW9.out _).mono ?_); rintro e v3 ⟨rfl, rfl⟩)))
    go_ret
    exact ⟨by rw [he] <;> rfl, by (exact jkc)⟩
  by_cases k6 : ¬ 65535 < hi
  case neg =>
    have HA := Lib.hid hA
    have HB := Lib.hid hB
    have HW3 := Lib.hid hW3
    clear hA hB hW3
    have he : V = false := by rw [← HV.out]; exact propB_false (fun h => k6 (by have := h.2.2.2.1.2.2; simp only at this; omega))
    have k6b := Classical.not_not.1 k6
    clear k1 k2 k3
    go_enter Tryz.func49, Tryz.ntmps49
    go_wp2_with (first
      | (go_at_call 100; (refine (HA.out _ (by (exact jkc))).mono ?_; rintro e v1 ⟨rfl, ⟨os1, d1, rfl⟩⟩))
      | (go_at_call 101; (refine (HB.out _ (by (exact jkc))).mono ?_; rintro e v2 ⟨rfl, ⟨os2, d2, rfl⟩⟩))
      | (go_at_call 102; first | ((with_reducible refine (HW3.out _).mono ?_); rintro e v3 ⟨rfl, rfl⟩) | ((with_reducible refine (HW7.out _).mono ?_); rintro e v3 ⟨rfl, rfl⟩) | ((with_reducible refine (HW8.out _).mono ?_); rintro e v3 ⟨rfl, rfl⟩) | ((with_reducible refine (HW9.out _).mono ?_); rintro e v3 ⟨rfl, rfl⟩)))
    go_ret
    exact ⟨by rw [he] <;> rfl, by (exact jkc)⟩
  by_cases k7 : ¬ (32 : Int) < (n6 : Int)
  case neg =>
    have HA := Lib.hid hA
    have HB := Lib.hid hB
    have HW3 := Lib.hid hW3
    clear hA hB hW3
    have he : V = false := by rw [← HV.out]; exact propB_false (fun h => k7 (by have := h.2.2.2.2.1.1; simp only at this; have := HZ.out; omega))
    have k7b := Classical.not_not.1 k7
    clear k1 k2 k3
    go_enter Tryz.func49, Tryz.ntmps49
    go_wp2_with (first
      | (go_at_call 100; (refine (HA.out _ (by (exact jkc))).mono ?_; rintro e v1 ⟨rfl, ⟨os1, d1, rfl⟩⟩))
      | (go_at_call 101; (refine (HB.out _ (by (exact jkc))).mono ?_; rintro e v2 ⟨rfl, ⟨os2, d2, rfl⟩⟩))
      | (go_at_call 102; first | ((with_reducible refine (HW3.out _).mono ?_); rintro e v3 ⟨rfl, rfl⟩) | ((with_reducible refine (HW7.out _).mono ?_); rintro e v3 ⟨rfl, rfl⟩) | ((with_reducible refine (HW8.out _).mono ?_); rintro e v3 ⟨rfl, rfl⟩) | ((with_reducible refine (HW9.out _).mono ?_); rintro e v3 ⟨rfl, rfl⟩)))
    go_ret
    exact ⟨by rw [he] <;> rfl, by (exact jkc)⟩
  have HA := Lib.hid hA
  have HB := Lib.hid hB
  have HW3 := Lib.hid hW3
  have HK := Lib.hid (And.intro k1 (And.intro k2 k3))
  clear hA hB hW3 k1 k2 k3
  go_enter Tryz.func49, Tryz.ntmps49
  go_wp2_with (first
    | (go_at_call 100; (refine (HA.out _ (by (exact jkc))).mono ?_; rintro e v1 ⟨rfl, ⟨os1, d1, rfl⟩⟩))
    | (go_at_call 101; (refine (HB.out _ (by (exact jkc))).mono ?_; rintro e v2 ⟨rfl, ⟨os2, d2, rfl⟩⟩))
    | (go_at_call 102; first | ((with_reducible refine (HW3.out _).mono ?_); rintro e v3 ⟨rfl, rfl⟩) | ((with_reducible refine (HW7.out _).mono ?_); rintro e v3 ⟨rfl, rfl⟩) | ((with_reducible refine (HW8.out _).mono ?_); rintro e v3 ⟨rfl, rfl⟩) | ((with_reducible refine (HW9.out _).mono ?_); rintro e v3 ⟨rfl, rfl⟩)))
  go_loopw [3, 4, 47] (fun v3 v4 v10 wr => ∃ i : Nat, v10 = .int .i64 (i : Int) ∧ Junk (w.alloc (.cells #[.slice o0 n0 c0, .slice o1 n1 c1, .int .i64 ou, .int .u32 pu, .int .i64 lo, .int .i64 hi, .slice o6 n6 c6, .int .i64 tc, .int .i64 ot, .int .i64 bu] 81)) wr ∧ i ≤ n6 ∧ Hid (∀ j, j < i → ∀ r, Z[j]? = some r → fwMay lo hi r = true ∧ ∀ k x, k < j → Z[k]? = some x → fwSame x r = false)) (fun _ _ v _ => n6 + 1 - (intOf v).toNat)
  case atStart => exact ⟨0, rfl, by (exact jkc), by omega, Lib.hid (fun j hj => by omega)⟩
  case round =>
    obtain ⟨i, rfl, ⟨os, d, rfl⟩, hik, hN⟩ := hrel
    by_cases hil : i < n6
    case neg =>
      have hi2 : ¬ (i : Int) < (n6 : Int) := by omega
      obtain rfl : i = n6 := by omega
      have he : V = (w7 && w8 && w9) := by
        rw [← HV.out, Bool.eq_iff_iff, propB_iff]
        obtain ⟨q7, q8, q9⟩ := HQ.out
        rw [← q7, ← q8, ← q9]
        simp only [Bool.and_eq_true, decide_eq_true_eq]
        constructor
        · intro h
          exact ⟨⟨h.2.2.2.2.2.1, h.2.2.2.2.2.2.1⟩, h.2.2.2.2.2.2.2⟩
        · rintro ⟨⟨h7, h8⟩, h9⟩
          refine ⟨HK.out.1, HK.out.2.1, HK.out.2.2, ⟨by simp only; omega, by simp only; omega, by simp only; omega⟩, ⟨by simp only; have := HZ.out; omega, fun j r hj => hN.out j (by rw [← HZ.out]; exact (List.getElem?_eq_some_iff.1 hj).1) r hj⟩, h7, h8, h9⟩
      go_wp2_with (go_at_call 102; first | ((with_reducible refine (HW3.out _).mono ?_); rintro e v3 ⟨rfl, rfl⟩) | ((with_reducible refine (HW7.out _).mono ?_); rintro e v3 ⟨rfl, rfl⟩) | ((with_reducible refine (HW8.out _).mono ?_); rintro e v3 ⟨rfl, rfl⟩) | ((with_reducible refine (HW9.out _).mono ?_); rintro e v3 ⟨rfl, rfl⟩))
      all_goals go_ret
      all_goals refine ⟨?_, by (exact jkc)⟩
      all_goals (rw [he]; first | rfl | (simp_all; done) | trace_state)
    have hi2 : (i : Int) < (n6 : Int) := by omega
    have hic : (i : Int) ≤ (c6 : Int) := by omega
    obtain ⟨r, hr⟩ : ∃ r, Z[i]? = some r := ⟨_, List.getElem?_eq_getElem (by rw [HZ.out]; exact hil)⟩
    obtain ⟨b, off, rfl, hb, c0', c1', c2', c3', c4'⟩ := HS6.out i r hr
    have HR := Lib.hid hr
    clear hr
    obtain ⟨xp, xq, xa, xt, xx⟩ := r
    dsimp only at c0' c1' c2' c3' c4'
    have HT := Lib.hid (show (Z.take i).length = i by rw [List.length_take, HZ.out]; omega)
    cases hm : fwMay lo hi ⟨xp, xq, xa, xt, xx⟩ with
    | false =>
      have HM := Lib.hid hm
      have he : V = false := by rw [← HV.out]; exact propB_false (fun h => by have := (h.2.2.2.2.1.2 i _ HR.out).1; simp only at this; rw [HM.out] at this; cases this)
      go_wp2_with (go_at_call 103; (refine (fmay_any15 _ _ _ _ _ _ _ _ _ _ _ _ _ _ _ _ _ _ _ _ _ _).mono ?_; rintro e w1 ⟨rfl, ⟨os1, d1, rfl⟩⟩); rw [HM.out])
      go_ret
      exact ⟨by rw [he] <;> rfl, by (exact jkc)⟩
    | true =>
      have HM := Lib.hid hm
      cases ha : (Z.take i).any (fun y => fwSame y ⟨xp, xq, xa, xt, xx⟩) with
      | true =>
        have HAA := Lib.hid ha
        have he : V = false := by
          rw [← HV.out]
          refine propB_false (fun h => ?_)
          obtain ⟨y, hy, hy2⟩ := List.any_eq_true.1 HAA.out
          obtain ⟨k, hk⟩ := List.mem_iff_getElem?.1 hy
          have hki : k < i := by have := (List.getElem?_eq_some_iff.1 hk).1; rw [HT.out] at this; exact this
          rw [List.getElem?_take_of_lt hki] at hk
          have := (h.2.2.2.2.1.2 i _ HR.out).2 k y hki hk
          rw [this] at hy2
          cases hy2
        go_wp2_with (first
          | (go_at_call 103; (refine (fmay_any15 _ _ _ _ _ _ _ _ _ _ _ _ _ _ _ _ _ _ _ _ _ _).mono ?_; rintro e w1 ⟨rfl, ⟨os1, d1, rfl⟩⟩); rw [HM.out])
          | (go_at_call 104; (refine (fcont_any _ i c6 (Z.take i) xp xq xt xa xx _ _ (by omega) HT.out ((HS6.out.on (by (exact jkc))).take i) (by simp [go_sem]) (by simp [go_sem])).mono ?_; rintro e w2 ⟨rfl, ⟨os2, d2, rfl⟩⟩); rw [HAA.out]))
        go_ret
        exact ⟨by rw [he] <;> rfl, by (exact jkc)⟩
      | false =>
        have HAA := Lib.hid ha
        have HN2 := Lib.hid (show ∀ j, j < i + 1 → ∀ r, Z[j]? = some r → fwMay lo hi r = true ∧ ∀ k x, k < j → Z[k]? = some x → fwSame x r = false from fun j hj r hr => by
          by_cases h : j = i
          · subst h
            rw [HR.out] at hr
            cases hr
            refine ⟨HM.out, fun k x hk hx => ?_⟩
            have := List.any_eq_false.1 HAA.out x (List.mem_of_getElem? (i := k) (by rw [List.getElem?_take_of_lt hk]; exact hx))
            simpa using this
          · exact hN.out j (by omega) r hr)
        go_wp2_with (first
          | (go_at_call 103; (refine (fmay_any15 _ _ _ _ _ _ _ _ _ _ _ _ _ _ _ _ _ _ _ _ _ _).mono ?_; rintro e w1 ⟨rfl, ⟨os1, d1, rfl⟩⟩); rw [HM.out])
          | (go_at_call 104; (refine (fcont_any _ i c6 (Z.take i) xp xq xt xa xx _ _ (by omega) HT.out ((HS6.out.on (by (exact jkc))).take i) (by simp [go_sem]) (by simp [go_sem])).mono ?_; rintro e w2 ⟨rfl, ⟨os2, d2, rfl⟩⟩); rw [HAA.out]))
        exact ⟨⟨i + 1, by go_num, by (exact jkc), by omega, HN2⟩, by simp [intOf]; omega⟩
end Go.Proofs.YtfhkhnoiolkkdaaGreatDoor
set_option linter.unusedVariables false
set_option maxRecDepth 100000
set_option linter.unusedSimpArgs false
namespace Go.Proofs.YtfhkhnoiolkkdaaGreatDoor
open Go.RowKit
theorem rin_mine (w : World) : Calls Tryz.prog 281 #[.int .u32 167772161, .int .u32 0, .int .i64 0] w fun e w' => e = .returned (.bool true) ∧ Junk w w' := by
  have q : (bits .and .u32 (bits .xor .u32 167772161 0) (maskI 0) == 0) = true := by decide +kernel
  go_enter Tryz.func281, Tryz.ntmps281
  go_wp2_with (first | (go_at_call 248; (with_reducible refine (cmask_any _ (by decide) _).mono ?_); rintro e w' ⟨rfl, ⟨osj, dj, rfl⟩⟩))
  go_ret
  exact ⟨rfl, by (exact jkc)⟩
theorem rin_peer (w : World) : Calls Tryz.prog 281 #[.int .u32 134744072, .int .u32 0, .int .i64 0] w fun e w' => e = .returned (.bool true) ∧ Junk w w' := by
  have q : (bits .and .u32 (bits .xor .u32 134744072 0) (maskI 0) == 0) = true := by decide +kernel
  go_enter Tryz.func281, Tryz.ntmps281
  go_wp2_with (first | (go_at_call 248; (with_reducible refine (cmask_any _ (by decide) _).mono ?_); rintro e w' ⟨rfl, ⟨osj, dj, rfl⟩⟩))
  go_ret
  exact ⟨rfl, by (exact jkc)⟩
theorem rzones_any (w : World) : Calls Tryz.prog 280 #[.agg #[.int .i64 1, .int .i64 0, .int .i64 0, .int .u32 0, .int .u32 0, .int .i64 0, .int .i64 0, .int .i64 0, .int .i64 65535, .int .i64 2], .int .i64 1, .int .i64 0] w fun e w' => e = .returned (.bool true) ∧ Junk w w' := by
  go_enter Tryz.func280, Tryz.ntmps280
  go_wp2
  go_ret
  exact ⟨rfl, by (exact jkc)⟩
theorem rwithin_any (d : Int) (h : 0 ≤ d ∧ d ≤ 65535) (w : World) : Calls Tryz.prog 250 #[.int .i64 d, .int .i64 0, .int .i64 65535] w fun e w' => e = .returned (.bool true) ∧ Junk w w' := by
  obtain ⟨h1, h2⟩ := h
  go_enter Tryz.func250, Tryz.ntmps250
  go_wp2
  go_ret
  exact ⟨ret_bool (by simp [h1, h2]), by (exact jkc)⟩
set_option maxHeartbeats 1000000 in
theorem rfits_any (s d : Int) (h : 0 ≤ d ∧ d ≤ 65535) (w : World) : Calls Tryz.prog 224 #[.agg #[.int .i64 1, .int .i64 0, .int .i64 0, .int .u32 0, .int .u32 0, .int .i64 0, .int .i64 0, .int .i64 0, .int .i64 65535, .int .i64 2], .int .i64 1, .int .i64 0, .agg #[.int .i64 17, .int .u32 167772161, .int .i64 s, .int .u32 134744072, .int .i64 d]] w fun e w' => e = .returned (.bool true) ∧ Junk w w' := by
  go_enter Tryz.func224, Tryz.ntmps224
  go_wp2_with (first | (go_at_call 280; (with_reducible refine (rzones_any _).mono ?_); rintro e w' ⟨rfl, ⟨osj, dj, rfl⟩⟩) | (go_at_call 281; (with_reducible refine (rin_mine _).mono ?_); rintro e w' ⟨rfl, ⟨osj, dj, rfl⟩⟩) | (go_at_call 281; (with_reducible refine (rin_peer _).mono ?_); rintro e w' ⟨rfl, ⟨osj, dj, rfl⟩⟩) | (go_at_call 250; (with_reducible refine (rwithin_any d h _).mono ?_); rintro e w' ⟨rfl, ⟨osj, dj, rfl⟩⟩))
  go_ret
  exact ⟨rfl, by (exact jkc)⟩
theorem rask1_any (s d : Int) (h : 0 ≤ d ∧ d ≤ 65535) (x y z : Nat) (w : World) (h0 : w.cell? ⟨x, 0, none⟩ = some (.int .i64 1)) (h1 : w.cell? ⟨y, 0, none⟩ = some (.int .i64 0)) (t0 : w.cell? ⟨z, 0, none⟩ = some (.int .i64 17)) (t1 : w.cell? ⟨z, 1, none⟩ = some (.int .u32 167772161)) (t2 : w.cell? ⟨z, 2, none⟩ = some (.int .i64 s)) (t3 : w.cell? ⟨z, 3, none⟩ = some (.int .u32 134744072)) (t4 : w.cell? ⟨z, 4, none⟩ = some (.int .i64 d)) (hx : x < w.heap.size) (hy : y < w.heap.size) (hz : z < w.heap.size) :
    Calls Tryz.prog 223 #[.agg #[.int .i64 1, .int .i64 0, .int .i64 0, .int .u32 0, .int .u32 0, .int .i64 0, .int .i64 0, .int .i64 0, .int .i64 65535, .int .i64 2], .pointer (some ⟨x, 0, none⟩), .pointer (some ⟨y, 0, none⟩), .pointer (some ⟨z, 0, none⟩)] w fun e w' => e = .returned (.bool true) ∧ Junk w w' := by
  go_enter Tryz.func223, Tryz.ntmps223
  go_wp2_with (first | (go_at_call 224; (with_reducible refine (rfits_any s d h _).mono ?_); rintro e w' ⟨rfl, ⟨osj, dj, rfl⟩⟩))

  go_ret
  exact ⟨rfl, by (exact jkc)⟩
end Go.Proofs.YtfhkhnoiolkkdaaGreatDoor
set_option linter.unusedVariables false
set_option maxRecDepth 100000
set_option linter.unusedSimpArgs false
namespace Go.Proofs.YtfhkhnoiolkkdaaGreatDoor
open Go.RowKit
def Bb (a : Nat) (k : Nat) : Nat := a / 2 ^ (31 - k) % 2
theorem nine {k : Nat} (h : k ≤ 8) : k = 0 ∨ k = 1 ∨ k = 2 ∨ k = 3 ∨ k = 4 ∨ k = 5 ∨ k = 6 ∨ k = 7 ∨ k = 8 := by omega
set_option maxHeartbeats 1000000 in
theorem rbit_net (k : Nat) (hk : k ≤ 8) (w : World) : Calls Tryz.prog 253 #[.int .u32 167772160, .int .i64 (k : Int)] w fun e w' => e = .returned (.int .i64 (Bb 167772160 k : Nat)) ∧ w = w' := by
  rcases nine hk with rfl | rfl | rfl | rfl | rfl | rfl | rfl | rfl | rfl
  all_goals
    go_enter Tryz.func253, Tryz.ntmps253
    go_wp2
    go_ret
    refine ⟨?_, rfl⟩
    show Ending.returned (.int .i64 _) = _
    exact congrArg (fun x => Ending.returned (.int .i64 x)) (by decide +kernel)
set_option maxHeartbeats 1000000 in
theorem rbit_mine (k : Nat) (hk : k ≤ 8) (w : World) : Calls Tryz.prog 253 #[.int .u32 167772161, .int .i64 (k : Int)] w fun e w' => e = .returned (.int .i64 (Bb 167772161 k : Nat)) ∧ w = w' := by
  rcases nine hk with rfl | rfl | rfl | rfl | rfl | rfl | rfl | rfl | rfl
  all_goals
    go_enter Tryz.func253, Tryz.ntmps253
    go_wp2
    go_ret
    refine ⟨?_, rfl⟩
    show Ending.returned (.int .i64 _) = _
    exact congrArg (fun x => Ending.returned (.int .i64 x)) (by decide +kernel)
set_option maxHeartbeats 1000000 in
theorem rbit_peer (k : Nat) (hk : k ≤ 8) (w : World) : Calls Tryz.prog 253 #[.int .u32 134744072, .int .i64 (k : Int)] w fun e w' => e = .returned (.int .i64 (Bb 134744072 k : Nat)) ∧ w = w' := by
  rcases nine hk with rfl | rfl | rfl | rfl | rfl | rfl | rfl | rfl | rfl
  all_goals
    go_enter Tryz.func253, Tryz.ntmps253
    go_wp2
    go_ret
    refine ⟨?_, rfl⟩
    show Ending.returned (.int .i64 _) = _
    exact congrArg (fun x => Ending.returned (.int .i64 x)) (by decide +kernel)
structure Chn (w : World) (c : Nat → Nat) (k : Nat) (r : Int) : Prop where
  on : ∀ i, i < k → Box w (c i) 312 (if Bb 167772160 i = 0 then [.int .i64 (if i = 0 then r else -1), .pointer (some ⟨c (i + 1), 0, none⟩), .pointer none] else [.int .i64 (if i = 0 then r else -1), .pointer none, .pointer (some ⟨c (i + 1), 0, none⟩)])
def cur (b n k : Nat) : Nat := if k = 0 then b else n + k
theorem Bb_two (a k : Nat) : Bb a k = 0 ∨ Bb a k = 1 := by unfold Bb; omega
theorem cur_ne {b n i k : Nat} (hb : b < n) (h : i ≠ k) : cur b n i ≠ cur b n k := by unfold cur; split <;> split <;> omega
theorem Chn.step {w : World} {c : Nat → Nat} {k : Nat} (j : Nat) (h : Chn w c k (-1)) (hb : Box w (c k) 312 [.int .i64 (-1), .pointer none, .pointer none]) (hn : c (k + 1) = w.heap.size) (hi : ∀ i, i < k → c i ≠ c k) (hj : (Bb 167772160 k = 0 ∧ j = 1) ∨ (Bb 167772160 k ≠ 0 ∧ j = 2)) :
    Chn ((w.setCell ⟨c k, j, none⟩ (.pointer (some ⟨w.heap.size, 0, none⟩))).alloc (.cells #[.int .i64 (-1), .pointer none, .pointer none] 312)) c (k + 1) (-1) ∧
    Box ((w.setCell ⟨c k, j, none⟩ (.pointer (some ⟨w.heap.size, 0, none⟩))).alloc (.cells #[.int .i64 (-1), .pointer none, .pointer none] 312)) (c (k + 1)) 312 [.int .i64 (-1), .pointer none, .pointer none] := by
  have t : Tch (fun x => x = c k) w ((w.setCell ⟨c k, j, none⟩ (.pointer (some ⟨w.heap.size, 0, none⟩))).alloc (.cells #[.int .i64 (-1), .pointer none, .pointer none] 312)) := ((Tch.refl (L := fun x => x = c k) w).set _ (fun _ => rfl)).new _
  refine ⟨⟨fun i hik => ?_⟩, box_at' (by rw [hn]; simp [World.setCell]) rfl⟩
  by_cases e : i = k
  · subst e
    have h1 := (hb.set j (.pointer (some ⟨w.heap.size, 0, none⟩))).on (show Junk _ ((w.setCell ⟨c i, j, none⟩ (.pointer (some ⟨w.heap.size, 0, none⟩))).alloc (.cells #[.int .i64 (-1), .pointer none, .pointer none] 312)) by (exact jkc))
    rw [hn]
    rcases hj with ⟨hz, rfl⟩ | ⟨hz, rfl⟩
    · rw [if_pos hz]
      simpa using h1
    · rw [if_neg hz]
      simpa using h1
  · exact (h.on i (by omega)).tch t (hi i (by omega))
set_option maxHeartbeats 4000000 in
theorem rput0 (b : Nat) (w : World) (hb : Box w b 312 [.int .i64 (-1), .pointer none, .pointer none]) :
    Calls Tryz.prog 183 #[.pointer (some ⟨b, 0, none⟩), .agg #[.int .u32 167772160, .int .i64 8, .int .i64 1, .int .i64 1500], .int .i64 0] w fun e w' => e = .returned (.tuple #[]) ∧ Chn w' (cur b w.heap.size) 8 (-1) ∧ Box w' (w.heap.size + 8) 312 [.int .i64 0, .pointer none, .pointer none] ∧ Tch (fun k => k = b) w w' := by
  have hlt := hb.lt
  have HB := Lib.hid hb
  clear hb
  go_enter Tryz.func183, Tryz.ntmps183
  go_wp2
  go_loopw [0, 10] (fun n i wr => ∃ k : Nat, n = .pointer (some ⟨cur b w.heap.size k, 0, none⟩) ∧ i = .int .i64 (k : Int) ∧ k ≤ 8 ∧ wr.heap.size = w.heap.size + 1 + k ∧ Hid (Chn wr (cur b w.heap.size) k (-1) ∧ Box wr (cur b w.heap.size k) 312 [.int .i64 (-1), .pointer none, .pointer none] ∧ Tch (fun k => k = b) (w.alloc (.cells #[.int .u32 167772160, .int .i64 8, .int .i64 1, .int .i64 1500] 139)) wr)) (fun _ i _ => 9 - (intOf i).toNat)
  case atStart => exact ⟨0, rfl, rfl, by omega, by simp, Lib.hid ⟨⟨fun i hi => absurd hi (Nat.not_lt_zero _)⟩, HB.out.on (by (exact jkc)), Tch.refl _⟩⟩
  case round =>
    obtain ⟨k, rfl, rfl, hk, hs, HC⟩ := hrel
    have HSZ := Lib.hid hs
    have cm := HC.out.2.1.cell (j := 0) rfl
    have c0 := HC.out.2.1.cell (j := 1) rfl
    have c1 := HC.out.2.1.cell (j := 2) rfl
    have f0 := HC.out.2.1.frozen 0
    have f1 := HC.out.2.1.frozen 1
    have f2 := HC.out.2.1.frozen 2
    have cl := HC.out.2.1.lt
    have a0 : wr.cell? ⟨w.heap.size, 0, none⟩ = some (.int .u32 167772160) := HC.out.2.2.cell (by simp [go_sem]) (by simp only; omega)
    have al : w.heap.size < wr.heap.size := by omega
    have hn : cur b w.heap.size (k + 1) = wr.heap.size := by rw [hs]; unfold cur; rw [if_neg (by omega)]; omega
    have HN := Lib.hid hn
    clear hs hn
    have hi : ∀ i, i < k → cur b w.heap.size i ≠ cur b w.heap.size k := fun i h => cur_ne hlt (by omega)
    by_cases hlt8 : k < 8
    case neg =>
      obtain rfl : k = 8 := by omega
      have T0 : Tch (fun x => x = cur b w.heap.size 8) wr (wr.setCell ⟨cur b w.heap.size 8, 0, none⟩ (.int .i64 0)) := (Tch.refl (L := fun x => x = cur b w.heap.size 8) wr).set _ (fun _ => rfl)
      have HE := Lib.hid (show Chn (wr.setCell ⟨cur b w.heap.size 8, 0, none⟩ (.int .i64 0)) (cur b w.heap.size) 8 (-1) ∧ Box (wr.setCell ⟨cur b w.heap.size 8, 0, none⟩ (.int .i64 0)) (w.heap.size + 8) 312 [.int .i64 0, .pointer none, .pointer none] ∧ Tch (fun k => k = b) w (wr.setCell ⟨cur b w.heap.size 8, 0, none⟩ (.int .i64 0)) from
        ⟨⟨fun i h => (HC.out.1.on i h).tch T0 (hi i h)⟩, HC.out.2.1.set 0 _, (((Tch.refl w).new _).trans HC.out.2.2).then T0 (fun i h1 h2 => by have h2 : i = cur b w.heap.size 8 := h2; unfold cur at h2; rw [if_neg (by decide)] at h2; omega)⟩)
      obtain ⟨m, hm⟩ : ∃ m, cur b w.heap.size 8 = m := ⟨_, rfl⟩
      rw [hm] at cm f0 cl HE ⊢
      clear hi c0 c1 f1 f2 HC
      go_wp2
      go_end0
      exact ⟨rfl, HE.out⟩
    have hk2 : (k : Int) < 8 := by omega
    obtain ⟨j, hj⟩ : ∃ j, (Bb 167772160 k = 0 ∧ j = 1) ∨ (Bb 167772160 k ≠ 0 ∧ j = 2) := by
      by_cases h : Bb 167772160 k = 0
      · exact ⟨1, .inl ⟨h, rfl⟩⟩
      · exact ⟨2, .inr ⟨h, rfl⟩⟩
    have HS := Lib.hid (HC.out.1.step j HC.out.2.1 HN.out hi hj)
    have HT := Lib.hid (show Tch (fun k => k = b) (w.alloc (.cells #[.int .u32 167772160, .int .i64 8, .int .i64 1, .int .i64 1500] 139)) ((wr.setCell ⟨cur b w.heap.size k, j, none⟩ (.pointer (some ⟨wr.heap.size, 0, none⟩))).alloc (.cells #[.int .i64 (-1), .pointer none, .pointer none] 312)) from
      (HC.out.2.2.set _ (fun h => by have h : cur b w.heap.size k < (w.alloc (.cells #[.int .u32 167772160, .int .i64 8, .int .i64 1, .int .i64 1500] 139)).heap.size := h; show cur b w.heap.size k = b; unfold cur at h ⊢; split at h <;> rename_i h9; exact if_pos h9; simp at h; omega)).new _)
    have hz : (Bb 167772160 k = 0 ∧ j = 1) ∨ (Bb 167772160 k = 1 ∧ j = 2) := by have := Bb_two 167772160 k; omega
    obtain ⟨m, hm⟩ : ∃ m, cur b w.heap.size k = m := ⟨_, rfl⟩
    rw [hm] at cm c0 c1 f0 f1 f2 cl HS HT ⊢
    have HBT := Lib.hid (fun w => rbit_net k (by omega) w)
    clear hi hj HC
    rcases hz with ⟨hz, rfl⟩ | ⟨hz, rfl⟩
    all_goals
      rw [hz] at HBT
      clear hz
      go_wp2_with (first | (go_at_call 253; (with_reducible refine (HBT.out _).mono ?_); rintro e w' ⟨rfl, rfl⟩))
      exact ⟨⟨k + 1, by rw [HN.out], by go_num, by omega, by have := HSZ.out; simp [World.setCell]; omega, Lib.hid ⟨HS.out.1, HS.out.2, HT.out⟩⟩, by simp [intOf]; omega⟩
end Go.Proofs.YtfhkhnoiolkkdaaGreatDoor
set_option linter.unusedVariables false
set_option maxRecDepth 100000
set_option linter.unusedSimpArgs false
namespace Go.Proofs.YtfhkhnoiolkkdaaGreatDoor
open Go.RowKit
theorem rput1 (b : Nat) (w : World) (r : Int) (hb : b < w.heap.size) (h0 : w.cell? ⟨b, 0, none⟩ = some (.int .i64 r)) (hf : w.frozen? ⟨b, 0, none⟩ = false) :
    Calls Tryz.prog 183 #[.pointer (some ⟨b, 0, none⟩), .agg #[.int .u32 0, .int .i64 0, .int .i64 0, .int .i64 1500], .int .i64 1] w fun e w' => e = .returned (.tuple #[]) ∧ Junk (w.setCell ⟨b, 0, none⟩ (.int .i64 1)) w' := by
  go_enter Tryz.func183, Tryz.ntmps183
  go_wp2
  refine wp_loop_rounds 1 ?_
  rw [rounds_succ]
  go_wp2
  go_end0
  exact ⟨rfl, by (exact jkc)⟩
theorem Chn.root {w : World} {c : Nat → Nat} (h : Chn w c 8 (-1)) (hi : ∀ i, 0 < i → i ≤ 8 → c i ≠ c 0) : Chn (w.setCell ⟨c 0, 0, none⟩ (.int .i64 1)) c 8 1 := by
  have t : Tch (fun x => x = c 0) w (w.setCell ⟨c 0, 0, none⟩ (.int .i64 1)) := (Tch.refl (L := fun x => x = c 0) w).set _ (fun _ => rfl)
  refine ⟨fun i hi8 => ?_⟩
  by_cases e : i = 0
  · subst e
    have h1 := (h.on 0 (by decide)).set 0 (.int .i64 1)
    rw [if_pos rfl] at h1 ⊢
    split at h1 <;> rename_i h9
    · rw [if_pos h9]; simpa using h1
    · rw [if_neg h9]; simpa using h1
  · have := (h.on i hi8).tch t (hi i (by omega) (by omega))
    rw [if_neg e] at this ⊢
    exact this
theorem Chn.node {w : World} {c : Nat → Nat} (h : Chn w c 8 1) (hL : Box w (c 8) 312 [.int .i64 0, .pointer none, .pointer none]) (k x : Nat) (hk : k ≤ 8) (hx : x = 0 ∨ x = 1) :
    c k < w.heap.size ∧ w.cell? ⟨c k, 0, none⟩ = some (.int .i64 (if k = 0 then 1 else if k = 8 then 0 else -1)) ∧ w.cell? ⟨c k, 1 + x, none⟩ = some (if k < 8 ∧ Bb 167772160 k = x then .pointer (some ⟨c (k + 1), 0, none⟩) else .pointer none) := by
  by_cases e : k = 8
  · subst e
    refine ⟨hL.lt, hL.cell rfl, ?_⟩
    rw [if_neg (fun h => absurd h.1 (by decide))]
    rcases hx with rfl | rfl
    · exact hL.cell rfl
    · exact hL.cell rfl
  · have hb := h.on k (by omega)
    refine ⟨hb.lt, ?_, ?_⟩
    · rw [if_neg e]
      split at hb <;> exact hb.cell rfl
    · have h2 := Bb_two 167772160 k
      rcases hx with rfl | rfl
      · by_cases h0 : Bb 167772160 k = 0
        · rw [if_pos ⟨by omega, h0⟩]; rw [if_pos h0] at hb; exact hb.cell rfl
        · rw [if_neg (fun h => h0 h.2)]; rw [if_neg h0] at hb; exact hb.cell rfl
      · by_cases h0 : Bb 167772160 k = 0
        · rw [if_neg (fun h => by omega)]; rw [if_pos h0] at hb; exact hb.cell rfl
        · rw [if_pos ⟨by omega, by omega⟩]; rw [if_neg h0] at hb; exact hb.cell rfl
set_option maxHeartbeats 4000000 in
theorem rfind_any (a p : Nat) (c : Nat → Nat) (R : Int) (w : World) (hp : p ≤ 8) (hA : ∀ i, i < p → Bb a i = Bb 167772160 i) (hD : p < 8 → Bb a p ≠ Bb 167772160 p) (hC : Chn w c 8 1) (hL : Box w (c 8) 312 [.int .i64 0, .pointer none, .pointer none])
    (hbit : ∀ k : Nat, k ≤ 8 → ∀ w, Calls Tryz.prog 253 #[.int .u32 (a : Int), .int .i64 (k : Int)] w fun e w' => e = .returned (.int .i64 (Bb a k : Nat)) ∧ w = w') (hR : R = if p = 8 then 0 else 1) :
    Calls Tryz.prog 184 #[.pointer (some ⟨c 0, 0, none⟩), .int .u32 (a : Int)] w fun e w' => e = .returned (.int .i64 R) ∧ Junk w w' := by
  have HC := Lib.hid (And.intro hC hL)
  have HB := Lib.hid hbit
  have HA := Lib.hid hA
  have HD := Lib.hid hD
  have HR := Lib.hid hR
  clear hC hL hbit hA hD hR
  go_enter Tryz.func184, Tryz.ntmps184
  go_wp2
  go_loopw [0, 5, 6] (fun n b i wr => Junk w wr ∧ ∃ k : Nat, i = .int .i64 (k : Int) ∧ ((k ≤ p ∧ n = .pointer (some ⟨c k, 0, none⟩) ∧ b = .int .i64 (if k = 0 then -1 else 1)) ∨ (n = .pointer none ∧ b = .int .i64 R ∧ k ≤ 9))) (fun n _ i _ => match n with | .pointer none => 0 | _ => 20 - (intOf i).toNat)
  case atStart => exact ⟨by (exact jkc), 0, rfl, .inl ⟨by omega, rfl, rfl⟩⟩
  case round =>
    obtain ⟨⟨os, d, rfl⟩, k, rfl, ⟨hk, rfl, rfl⟩ | ⟨rfl, rfl, hk⟩⟩ := hrel
    case inr =>
      go_wp2
      go_ret
      exact ⟨rfl, by (exact jkc)⟩
    obtain ⟨x, hx⟩ : ∃ x, Bb a k = x := ⟨_, rfl⟩
    have hx2 : x = 0 ∨ x = 1 := hx ▸ Bb_two a k
    obtain ⟨n0, n1, n2⟩ := HC.out.1.node HC.out.2 k x (by omega) hx2
    have HT := Lib.hid (fun w => show Calls Tryz.prog 253 #[.int .u32 (a : Int), .int .i64 (k : Int)] w fun e w' => e = .returned (.int .i64 (x : Int)) ∧ Junk w w' from Calls.junk_of_same (by have := HB.out k (by omega) w; rw [hx] at this; exact this))
    obtain ⟨r, hr⟩ : ∃ r : Int, (if k = 0 then (1 : Int) else if k = 8 then 0 else -1) = r := ⟨_, rfl⟩
    obtain ⟨bk, hbk⟩ : ∃ r : Int, (if k = 0 then (-1 : Int) else 1) = r := ⟨_, rfl⟩
    rw [hr] at n1
    rw [hbk]
    obtain ⟨m, hm⟩ : ∃ m, c k = m := ⟨_, rfl⟩
    rw [hm] at n0 n1 n2 ⊢
    have k32 : ((k : Int) == 32) = false := by simp; omega
    have HNX : (k < p ∧ (if k < 8 ∧ Bb 167772160 k = x then Value.pointer (some ⟨c (k + 1), 0, none⟩) else .pointer none) = .pointer (some ⟨c (k + 1), 0, none⟩) ∧ (0 ≤ r → r = 1) ∧ (¬ 0 ≤ r → bk = 1)) ∨ (k = p ∧ (if k < 8 ∧ Bb 167772160 k = x then Value.pointer (some ⟨c (k + 1), 0, none⟩) else .pointer none) = .pointer none ∧ (0 ≤ r → r = R) ∧ (¬ 0 ≤ r → bk = R)) := by
      have hRR := HR.out
      by_cases hkp : k < p
      · refine .inl ⟨hkp, if_pos ⟨by omega, by rw [← hx]; exact (HA.out k hkp).symm⟩, ?_, ?_⟩
        · intro h; split at hr; omega; split at hr <;> omega
        · intro h; split at hr; omega; split at hbk <;> omega
      · obtain rfl : k = p := by omega
        refine .inr ⟨rfl, ?_, ?_, ?_⟩
        · by_cases h8 : k < 8
          · exact if_neg (fun h => HD.out h8 (by rw [hx]; exact h.2.symm))
          · exact if_neg (fun h => h8 h.1)
        · intro h; split at hr; split at hRR <;> omega; split at hr <;> split at hRR <;> omega
        · intro h; split at hr; omega; split at hr; omega; split at hRR; omega; split at hbk <;> omega
    obtain ⟨nx, hnx⟩ : ∃ v, (if k < 8 ∧ Bb 167772160 k = x then Value.pointer (some ⟨c (k + 1), 0, none⟩) else .pointer none) = v := ⟨_, rfl⟩
    rw [hnx] at n2 HNX
    have HNX := Lib.hid HNX
    clear hnx hr hbk hx HB HA HD
    have hrc : 0 ≤ r ∨ ¬ 0 ≤ r := by omega
    rcases hx2 with rfl | rfl <;> rcases hrc with hr0 | hr0
    all_goals
      go_wp2
      refine wp_region_junk (by kernel_rfl) (by kernel_rfl) ?_; (repeat (go_big_quiet_step (first | (go_at_call 253; with_reducible exact Calls.jc (HT.out _))))); refine wpQuiet_nil ?_; rintro _ ⟨⟨osq, dq⟩, rfl⟩
      go_wp2
    all_goals
      obtain ⟨hkp, rfl, h1, h2⟩ | ⟨rfl, rfl, h1, h2⟩ := HNX.out
      · refine ⟨⟨by (exact jkc), k + 1, by simp, .inl ⟨by omega, rfl, ?_⟩⟩, ?_⟩
        · rw [if_neg (by omega)]
          first | rw [h1 (by omega)] | rw [h2 (by omega)]
        · simp [intOf]; omega
      · refine ⟨⟨by (exact jkc), k + 1, by simp, .inr ⟨rfl, ?_, by omega⟩⟩, ?_⟩
        · first | rw [h1 (by omega)] | rw [h2 (by omega)]
        · simp [intOf]; omega
end Go.Proofs.YtfhkhnoiolkkdaaGreatDoor
set_option linter.unusedVariables false
set_option maxRecDepth 100000
set_option linter.unusedSimpArgs false
namespace Go.Proofs.YtfhkhnoiolkkdaaGreatDoor
open Go.RowKit
def roM : List Ro := [⟨167772160, 8, 1, 1500⟩, ⟨0, 0, 0, 1500⟩]
theorem roM_right : propB (rtsP roM) = true := propB_true (by
  refine ⟨by decide, fun i r h => ?_⟩
  rcases i with _ | _ | i
  · cases h
    exact ⟨by decide +kernel, fun j x hj => absurd hj (Nat.not_lt_zero j)⟩
  · cases h
    refine ⟨by decide +kernel, fun j x hj hx => ?_⟩
    obtain rfl : j = 0 := by omega
    cases hx
    decide
  · cases h)
structure Way (a p : Nat) (z : Int) : Prop where
  le : p ≤ 8
  same : ∀ i, i < p → Bb a i = Bb 167772160 i
  part : p < 8 → Bb a p ≠ Bb 167772160 p
  zone : z = if p = 8 then 1 else 0
  bit : ∀ k : Nat, k ≤ 8 → ∀ w, Calls Tryz.prog 253 #[.int .u32 (a : Int), .int .i64 (k : Int)] w fun e w' => e = .returned (.int .i64 (Bb a k : Nat)) ∧ w = w'
theorem way_mine : Way 167772161 8 1 := ⟨by decide, by decide, fun h => absurd h (by decide), rfl, rbit_mine⟩
theorem way_peer : Way 134744072 6 0 := ⟨by decide, by decide, fun _ => by decide, rfl, rbit_peer⟩
theorem results_cell1t {P : Program} {w : World} {fn : Func} {a b : Tmp} {ty : TypeId} {tmps : Array Value} {ad : Addr} {v : Value} (h : fn.results = #[.cell a ty, .tmp b]) (ha : tmps.getD a undef = .pointer (some ad)) (hl : (Go.loadVar ty ad).run P w = .ok v w) : (results fn tmps).run P w = .ok (.tuple #[v, tmps.getD b undef]) w := by
  simp only [Array.getD_eq_getD_getElem?] at ha
  simp [results, h, ha, asAddr, hl, Result.andThen]
structure RoC (w : World) (b off : Nat) : Prop where
  lt : b < w.heap.size
  c0 : w.cell? ⟨b, off, none⟩ = some (.int .u32 167772160)
  c1 : w.cell? ⟨b, off + 1, none⟩ = some (.int .i64 8)
  c2 : w.cell? ⟨b, off + 2, none⟩ = some (.int .i64 1)
  c3 : w.cell? ⟨b, off + 3, none⟩ = some (.int .i64 1500)
  d0 : w.cell? ⟨b, off + 4, none⟩ = some (.int .u32 0)
  d1 : w.cell? ⟨b, off + 4 + 1, none⟩ = some (.int .i64 0)
  d2 : w.cell? ⟨b, off + 4 + 2, none⟩ = some (.int .i64 0)
  d3 : w.cell? ⟨b, off + 4 + 3, none⟩ = some (.int .i64 1500)
theorem RosAt.cells {w : World} {b off : Nat} (hS : RosAt w (some ⟨b, off, none⟩) roM) : RoC w b off := by
  obtain ⟨b1, off1, he, hb, c0, c1, c2, c3⟩ := hS 0 _ rfl
  cases he
  obtain ⟨b1, off1, he, hb', d0, d1, d2, d3⟩ := hS 1 _ rfl
  cases he
  exact ⟨hb, c0, c1, c2, c3, d0, d1, d2, d3⟩
set_option maxHeartbeats 4000000 in
theorem find13 (a p : Nat) (z n m : Int) (oa : Option Addr) (c : Nat) (w : World) (hW : Way a p z) (hn : n = if p = 8 then 167772160 else 0) (hm : m = if p = 8 then 8 else 0) (hc : 2 ≤ c) (hS : RosAt w oa roM) :
    Calls Tryz.prog 126 #[.slice oa 2 c, .int .u32 (a : Int)] w fun e w' => e = .returned (.tuple #[.agg #[.int .u32 n, .int .i64 m, .int .i64 z, .int .i64 1500], .bool true]) ∧ Junk w w' := by
  have HR := Lib.hid (fun w1 (h : RosAt w1 oa roM) => show Calls Tryz.prog 100 #[.slice oa 2 c] w1 fun e w' => e = .returned (.bool true) ∧ Junk w1 w' by have := rright_any13 oa 2 c roM w1 (by decide) rfl hc h; rw [roM_right] at this; exact this)
  have HS := Lib.hid hS
  obtain ⟨b, off, rfl, -, -⟩ := hS 0 _ rfl
  obtain ⟨r, hr⟩ : ∃ r : Int, (if p = 8 then 0 else 1) = r := ⟨_, rfl⟩
  have HF := Lib.hid (fun n w1 h1 h2 => rfind_any a p n r w1 hW.le hW.same hW.part h1 h2 hW.bit hr.symm)
  have HZ := Lib.hid (show (r = 0 ∧ z = 1 ∧ n = 167772160 ∧ m = 8) ∨ (r = 1 ∧ z = 0 ∧ n = 0 ∧ m = 0) by
    have := hW.zone
    by_cases h : p = 8
    · rw [if_pos h] at hn hm hr this; exact .inl ⟨hr.symm, this, hn, hm⟩
    · rw [if_neg h] at hn hm hr this; exact .inr ⟨hr.symm, this, hn, hm⟩)
  clear hS hW hr hn hm
  have hcc : (2 : Int) ≤ (c : Int) := by omega
  go_enter Tryz.func126, Tryz.ntmps126
  go_wp2_with (first | (go_at_call 100; (with_reducible refine (HR.out _ (HS.out.on (by (exact jkc)))).mono ?_); rintro e w' ⟨rfl, ⟨osj, dj, rfl⟩⟩))
  obtain ⟨N, hN⟩ : ∃ N, w.heap.size + 1 + osj.size = N := ⟨_, rfl⟩
  rw [hN]
  have hNw : w.heap.size < N := by omega
  refine wp_keep (fun V => Junk w V ∧ Box V w.heap.size 139 [.int .u32 0, .int .i64 0, .int .i64 0, .int .i64 0] ∧ Box V N 312 [.int .i64 (-1), .pointer none, .pointer none]) ⟨by (exact jkc), (box_at' (V := w) rfl rfl).on (by (exact jkc)), box_at' (by simp; omega) rfl⟩ ?_
  intro V ⟨h1, h2, h3⟩
  have H1 := Lib.hid (And.intro h1 (And.intro h2 h3))
  obtain ⟨hb, c0, c1, c2, c3, d0, d1, d2, d3⟩ := (HS.out.on h1).cells
  clear h1 h2 h3 hN
  refine wp_loop_rounds 3 ?_
  rw [rounds_succ]
  go_wp2_with (first | (go_at_call 183; (with_reducible refine (rput0 N _ (H1.out.2.2.on (by (exact jkc)))).mono ?_); rintro e w2 ⟨rfl, hch, hlf, ht⟩; have H2 := Lib.hid (And.intro hch (And.intro hlf (And.intro ht trivial))); clear hch hlf ht))
  rw [rounds_succ]
  obtain ⟨M, hM⟩ : ∃ M, (V.alloc (.cells #[.int .u32 167772160, .int .i64 8, .int .i64 1, .int .i64 1500] 139)).heap.size = M := ⟨_, rfl⟩
  have hNV := H1.out.2.2.lt
  have hMV : N < M := by rw [← hM]; simp; omega
  rw [hM] at H2
  have T1 := H2.out.2.2.1
  refine wp_keep (fun X => Junk w X ∧ Box X w.heap.size 139 [.int .u32 0, .int .i64 0, .int .i64 0, .int .i64 0] ∧ Chn X (cur N M) 8 (-1) ∧ Box X (M + 8) 312 [.int .i64 0, .pointer none, .pointer none]) ⟨Tch.junk ((Tch.of_junk (L := fun _ => False) (H1.out.1.trans (by (exact jkc)))).then T1 (fun i hi e => by have e : i = N := e; omega)), (H1.out.2.1.on (by (exact jkc))).tch T1 (fun e => by have e : w.heap.size = N := e; omega), H2.out.1, H2.out.2.1⟩ ?_
  intro X ⟨h1, h2, h3, h4⟩
  have H3 := Lib.hid (And.intro h1 (And.intro h2 (And.intro h3 h4)))
  clear c0 c1 c2 c3 d0 d1 d2 d3 hb T1 H1 H2 hM hNV
  obtain ⟨hb, -, -, -, -, d0, d1, d2, d3⟩ := (HS.out.on h1).cells
  have hroot : Box X N 312 [.int .i64 (-1), .pointer (some ⟨M + 1, 0, none⟩), .pointer none] := by have := h3.on 0 (by decide); rw [if_pos (by decide), if_pos rfl] at this; exact this
  clear h1 h2 h3 h4
  go_wp2_with (first | (go_at_call 183; (with_reducible refine (rput1 N _ (-1) (hroot.on (by (exact jkc))).lt ((hroot.on (by (exact jkc))).cell (j := 0) rfl) ((hroot.on (by (exact jkc))).frozen 0)).mono ?_); rintro e w4 ⟨rfl, hj4⟩; have H4 := Lib.hid hj4; clear hj4))
  rw [rounds_succ]
  obtain ⟨W4, hW⟩ : ∃ W, (X.alloc (.cells #[.int .u32 0, .int .i64 0, .int .i64 0, .int .i64 1500] 139)).setCell ⟨N, 0, none⟩ (.int .i64 1) = W := ⟨_, rfl⟩
  have T2 : Tch (fun k => k = N) X W4 := by rw [← hW]; exact ((Tch.refl X).new _).set _ (fun _ => rfl)
  have hC4 : Chn W4 (cur N M) 8 1 := by
    rw [← hW]
    exact Chn.root ⟨fun i hi => (H3.out.2.2.1.on i hi).on (by (exact jkc))⟩ (fun i h1 h2 => by unfold cur; rw [if_neg (by omega), if_pos rfl]; omega)
  rw [hW] at H4
  refine wp_keep (fun X => Junk w X ∧ Box X w.heap.size 139 [.int .u32 0, .int .i64 0, .int .i64 0, .int .i64 0] ∧ Chn X (cur N M) 8 1 ∧ Box X (M + 8) 312 [.int .i64 0, .pointer none, .pointer none]) ⟨(Tch.junk ((Tch.of_junk (L := fun _ => False) H3.out.1).then T2 (fun i hi e => by have e : i = N := e; omega))).trans H4.out, (H3.out.2.1.tch T2 (fun e => by have e : w.heap.size = N := e; omega)).on H4.out, ⟨fun i hi => (hC4.on i hi).on H4.out⟩, (H3.out.2.2.2.tch T2 (fun e => by have e : M + 8 = N := e; omega)).on H4.out⟩ ?_
  intro Y ⟨h1, h2, h3, h4⟩
  have H5 := Lib.hid (And.intro h1 (And.intro h2 (And.intro h3 h4)))
  clear d0 d1 d2 d3 hb hroot T2 hC4 hW H4 H3 h3 h4 h2
  obtain ⟨hb, c0, c1, c2, c3, d0, d1, d2, d3⟩ := (HS.out.on h1).cells
  clear h1
  have HF2 := Lib.hid (fun w1 hj => HF.out (cur N M) w1 ⟨fun i hi => (H5.out.2.2.1.on i hi).on hj⟩ (H5.out.2.2.2.on hj))
  rcases HZ.out with ⟨rfl, rfl, rfl, rfl⟩ | ⟨rfl, rfl, rfl, rfl⟩
  · go_wp2_with (first
      | (go_at_call 184; refine (HF2.out _ (by (exact jkc))).mono ?_; rintro e w6 ⟨rfl, ⟨os6, d6, rfl⟩⟩)
      | ((with_reducible show wpList _ _ _ _ _ _); refine wpList_storeBox rfl 139 _ _ rfl (H5.out.2.1.on (V' := Y.junk os6 d6) (by (exact jkc))) 0 #[.int .u32 167772160, .int .i64 8, .int .i64 1, .int .i64 1500] (show (Tryz.prog.info? 139).map (·.size) = some 4 from by kernel_rfl) rfl rfl (by show 0 + 4 ≤ 4; omega) (by simp [Value.oneCell']) ?_; intro w8 hg8 hb8; have H8 := Lib.hid (And.intro hg8 (show Box w8 w.heap.size 139 [.int .u32 167772160, .int .i64 8, .int .i64 1, .int .i64 1500] from hb8)); clear hg8 hb8))
    refine bodyPost_ret (results_cell1t Tryz.results126 rfl ((H8.out.2.on (by (exact jkc))).loadVar 139 Tryz.isAgg139 Tryz.sizeOf139)) rfl ?_
    exact ⟨rfl, (Tch.junk ((Tch.of_junk (L := fun _ => False) (H5.out.1.trans (by (exact jkc)))).then (Tch.of_grown (L := fun k => k = w.heap.size) H8.out.1 rfl) (fun i hi e => by have e : i = w.heap.size := e; omega))).trans (by (exact jkc))⟩
  · go_wp2_with (first
      | (go_at_call 184; refine (HF2.out _ (by (exact jkc))).mono ?_; rintro e w6 ⟨rfl, ⟨os6, d6, rfl⟩⟩)
      | ((with_reducible show wpList _ _ _ _ _ _); refine wpList_storeBox rfl 139 _ _ rfl (H5.out.2.1.on (V' := Y.junk os6 d6) (by (exact jkc))) 0 #[.int .u32 0, .int .i64 0, .int .i64 0, .int .i64 1500] (show (Tryz.prog.info? 139).map (·.size) = some 4 from by kernel_rfl) rfl rfl (by show 0 + 4 ≤ 4; omega) (by simp [Value.oneCell']) ?_; intro w8 hg8 hb8; have H8 := Lib.hid (And.intro hg8 (show Box w8 w.heap.size 139 [.int .u32 0, .int .i64 0, .int .i64 0, .int .i64 1500] from hb8)); clear hg8 hb8))
    refine bodyPost_ret (results_cell1t Tryz.results126 rfl ((H8.out.2.on (by (exact jkc))).loadVar 139 Tryz.isAgg139 Tryz.sizeOf139)) rfl ?_
    exact ⟨rfl, (Tch.junk ((Tch.of_junk (L := fun _ => False) (H5.out.1.trans (by (exact jkc)))).then (Tch.of_grown (L := fun k => k = w.heap.size) H8.out.1 rfl) (fun i hi e => by have e : i = w.heap.size := e; omega))).trans (by (exact jkc))⟩
end Go.Proofs.YtfhkhnoiolkkdaaGreatDoor
set_option linter.unusedVariables false
set_option maxRecDepth 100000
set_option linter.unusedSimpArgs false
namespace Go.Proofs.YtfhkhnoiolkkdaaGreatDoor
open Go.RowKit
theorem verr_any (v : Nat) (w : World) (hv : v < w.heap.size) (h9 : w.cell? ⟨v, 9, none⟩ = some (.int .i64 17)) :
    Calls Tryz.prog 77 #[.pointer (some ⟨v, 0, none⟩)] w fun e w' => e = .returned (.tuple #[.agg #[.int .i64 0, .int .i64 0, .int .u32 0, .slice none 0 0], .bool false]) ∧ Junk w w' := by
  go_enter Tryz.func77, Tryz.ntmps77
  go_wp2
  go_returns
  exact ⟨rfl, by (exact jkc)⟩
def talk0 : List Value := [.int .i64 0, .bool false, .bool false, .int .u32 0, .int .u32 0, .bool false, .bool false, .int .u32 0, .int .u32 0, .int .u32 0, .int .i64 0, .int .i64 0, .bool false, .int .u32 0, .int .u32 0, .int .u32 0, .int .i64 0, .int .i64 0, .bool false, .int .u32 0, .int .u32 0, .int .i64 0, .int .i64 0, .int .u32 0, .int .u32 0, .int .i64 0, .int .i64 0, .int .i64 0, .slice none 0 0, .slice none 0 0]
theorem vbegins_any (v : Nat) (w : World) (hv : v < w.heap.size) (h9 : w.cell? ⟨v, 14, none⟩ = some (.int .i64 17)) :
    Calls Tryz.prog 148 #[.pointer (some ⟨v, 0, none⟩)] w fun e w' => e = .returned (.tuple #[.agg talk0.toArray, .bool true]) ∧ Junk w w' := by
  go_enter Tryz.func148, Tryz.ntmps148
  go_upto_region 1 with (fail)
  refine wp_keep (fun V => Junk w V ∧ Box V w.heap.size 255 talk0) ⟨by (exact jkc), (box_at' (V := w) rfl rfl).on (by (exact jkc))⟩ ?_
  intro V ⟨h1, h2⟩
  have H1 := Lib.hid (And.intro h1 h2)
  have v14 := ((h1.below (Nat.le_refl _)).cell hv).trans h9
  have hv := Nat.lt_of_lt_of_le hv h1.size
  clear h1 h2 h9
  go_wp2_with (first | ((with_reducible show wpList _ _ _ _ _ _); refine wpList_storeBox rfl 255 _ _ rfl (H1.out.2.on (V' := V) (by (exact jkc))) 0 talk0.toArray (show (Tryz.prog.info? 255).map (·.size) = some 30 from by kernel_rfl) rfl rfl (by show 0 + 30 ≤ 30; omega) (by simp [Value.oneCell', talk0]) ?_; intro w8 hg8 hb8; have H8 := Lib.hid (And.intro hg8 (show Box w8 w.heap.size 255 talk0 from hb8)); clear hg8 hb8))
  refine bodyPost_ret (results_cell1t Tryz.results148 rfl ((H8.out.2.on (by (exact jkc))).loadVar 255 Tryz.isAgg255 Tryz.sizeOf255)) rfl ?_
  exact ⟨rfl, (Tch.junk ((Tch.of_junk (L := fun _ => False) H1.out.1).then (Tch.of_grown (L := fun k => k = w.heap.size) H8.out.1 rfl) (fun i hi e => by have e : i = w.heap.size := e; omega))).trans (by (exact jkc))⟩
theorem vlasts_any (v G : Nat) (now t n : Int) (w : World) (hv : v < w.heap.size) (hG : G < w.heap.size) (v0 : w.cell? ⟨v, 0, none⟩ = some (.pointer (some ⟨G, 0, none⟩))) (v14 : w.cell? ⟨v, 14, none⟩ = some (.int .i64 17)) (g0 : w.cell? ⟨G, 0, none⟩ = some (.int .i64 now)) (g11 : w.cell? ⟨G, 11, none⟩ = some (.int .i64 100)) (hn : 0 ≤ now ∧ now ≤ 1099511627776) (ht : now + 100 = t) :
    Calls Tryz.prog 137 #[.pointer (some ⟨v, 0, none⟩), .int .i64 n] w fun e w' => e = .returned (.int .i64 t) ∧ Junk w w' := by
  subst ht
  have q : wrap64 (now + 100) = now + 100 := by unfold wrap64; omega
  go_enter Tryz.func137, Tryz.ntmps137
  go_wp2
  refine wp_region_junk (by kernel_rfl) (by kernel_rfl) ?_; (repeat (go_big_quiet_step (first | fail))); refine wpQuiet_nil ?_; rintro _ ⟨⟨osq, dq⟩, rfl⟩
  go_wp2
  go_ret
  exact ⟨rfl, by (exact jkc)⟩
theorem vlead_out (v G : Nat) (a d : Int) (w : World) (hv : v < w.heap.size) (hG : G < w.heap.size) (v0 : w.cell? ⟨v, 0, none⟩ = some (.pointer (some ⟨G, 0, none⟩))) (v17 : w.cell? ⟨v, 17, none⟩ = some (.int .u32 a)) (v18 : w.cell? ⟨v, 18, none⟩ = some (.int .i64 d)) (g6 : w.cell? ⟨G, 6, none⟩ = some (.int .u32 3405803785)) (ha : (a != 3405803785) = true) :
    Calls Tryz.prog 145 #[.pointer (some ⟨v, 0, none⟩)] w fun e w' => e = .returned (.tuple #[.int .u32 a, .int .i64 d, .bool false, .bool true]) ∧ Junk w w' := by
  go_enter Tryz.func145, Tryz.ntmps145
  go_wp2
  refine wp_region_junk (by kernel_rfl) (by kernel_rfl) ?_; (repeat (go_big_quiet_step (first | fail))); refine wpQuiet_nil ?_; rintro _ ⟨⟨osq, dq⟩, rfl⟩
  go_wp2
  refine wp_region_junk (by kernel_rfl) (by kernel_rfl) ?_; (repeat (go_big_quiet_step (first | fail))); refine wpQuiet_nil ?_; rintro _ ⟨⟨osq, dq⟩, rfl⟩
  go_wp2
  go_returns
  exact ⟨rfl, by (exact jkc)⟩
theorem fo_none (f : Value) (w : World) : Calls Tryz.prog 174 #[.slice none 0 0, f] w fun e w' => e = .returned (.int .i64 (-1)) ∧ Junk w w' := by
  go_enter Tryz.func174, Tryz.ntmps174
  go_wp2
  refine wp_loop_rounds 1 ?_
  rw [rounds_succ]
  go_wp2
  go_ret
  exact ⟨rfl, by (exact jkc)⟩
theorem vlead_pub (v G : Nat) (w : World) (hv : v < w.heap.size) (hG : G < w.heap.size) (v0 : w.cell? ⟨v, 0, none⟩ = some (.pointer (some ⟨G, 0, none⟩))) (v17 : w.cell? ⟨v, 17, none⟩ = some (.int .u32 3405803785)) (g6 : w.cell? ⟨G, 6, none⟩ = some (.int .u32 3405803785)) (g9 : w.cell? ⟨G, 9, none⟩ = some (.slice none 0 0)) :
    Calls Tryz.prog 145 #[.pointer (some ⟨v, 0, none⟩)] w fun e w' => e = .returned (.tuple #[.int .u32 0, .int .i64 0, .bool false, .bool false]) ∧ Junk w w' := by
  have hmf : ∀ (fn : Fn) (first cap : Array Value) (w : World), (Instr.makeFunc fn first cap).run Tryz.prog w = .ok (.func fn first cap) w := fun _ _ _ _ => rfl
  go_enter Tryz.func145, Tryz.ntmps145
  go_wp2
  refine wp_region_junk (by kernel_rfl) (by kernel_rfl) ?_; (repeat (go_big_quiet_step (first | fail))); refine wpQuiet_nil ?_; rintro _ ⟨⟨osq, dq⟩, rfl⟩
  go_wp2_with (first | (go_at_call 174; (with_reducible refine (fo_none _ _).mono ?_); rintro e w' ⟨rfl, ⟨osj, dj, rfl⟩⟩))
  go_returns
  exact ⟨rfl, by (exact jkc)⟩
end Go.Proofs.YtfhkhnoiolkkdaaGreatDoor
set_option linter.unusedVariables false
set_option maxRecDepth 100000
set_option linter.unusedSimpArgs false
namespace Go.Proofs.YtfhkhnoiolkkdaaGreatDoor
open Go.RowKit
theorem own_setBelow {B : Nat} {w : World} {e : TypeId} {size : Nat} {oa : Option Addr} {cap n : Nat} {xs : List Value} (h : Own B w e size oa cap n xs) {a : Addr} (ha : a.block < B) (v : Value) : Own B (w.setCell a v) e size oa cap n xs := ownsRow_setCell_below h ha v
theorem frozen_new (w : World) (c : Array Value) (t : TypeId) (os : Array Obj) (d i : Nat) : ((w.alloc (.cells c t)).junk os d).frozen? ⟨w.heap.size, i, none⟩ = false := by
  rw [World.frozen?_junk _ _ _ _ _ (by simp)]
  exact World.frozen?_alloc_new w c t i
set_option maxHeartbeats 4000000 in
theorem ask_new (lo hi : Int) (oa : Option Addr) (l c : Nat) (L : List Ln) (x : Ln) (D : Nat) (w : World) (hl : l ≤ 1000000) (hlc : l ≤ c) (hL : L.length = l) (hS : LsAt w oa L) (hn : oa = none → l = 0 ∧ c = 0) (h1 : natRight lo hi L = true) (h2 : namedB x = true) (hf : L.findIdx? (innerB x) = none) (hD : D < 4294967296) :
    Calls Tryz.prog 149 #[.slice oa l c, .int .i64 lo, .int .i64 hi, x.val, .int .u32 (D : Int)] w (AskM w (askP lo hi L x D)) := by
  obtain ⟨n, hnn⟩ : ∃ n, n = (takenL L x.proto).length := ⟨_, rfl⟩
  have hn9 : n ≤ 1000000 := by rw [hnn]; exact Nat.le_trans (takenL_le _ _) (by omega)
  obtain ⟨R1, hR1⟩ : ∃ R1, R1 = (poolChoose lo hi (fun i => (takenL L x.proto)[i]?.getD 0) n x.inport D).1 := ⟨_, rfl⟩
  obtain ⟨R2, hR2⟩ : ∃ R2, R2 = (poolChoose lo hi (fun i => (takenL L x.proto)[i]?.getD 0) n x.inport D).2 := ⟨_, rfl⟩
  have HR := Lib.hid (show askP lo hi L x D = if R2 then (L ++ [{ x with port := R1 }], R1, 0) else (L, 0, 8) by unfold askP; rw [if_neg (by simp [h1, h2]), hf]; simp only; rw [← hnn, ← hR1, ← hR2])
  obtain ⟨RR, hRR⟩ : ∃ RR, RR = askP lo hi L x D := ⟨_, rfl⟩
  rw [HR.out] at hRR
  have HRR := Lib.hid hRR
  rw [show askP lo hi L x D = RR by rw [hRR, HR.out]]
  clear hRR
  have chs : ∀ w1 ob cap, IntsAt w1 ob n .i64 (fun i => (takenL L x.proto)[i]?.getD 0) → Calls Tryz.prog 233 #[.int .i64 lo, .int .i64 hi, .slice ob n cap, .int .i64 x.inport, .int .u32 (D : Int)] w1 fun e w' => e = .returned (.tuple #[.int .i64 R1, .bool R2]) ∧ Junk w1 w' := fun w1 ob cap h => by
    rw [hR1, hR2]
    exact choose_any lo hi ob n cap _ x.inport D w1 (by omega) hD h
  have tk := fun w1 h => taken_any x.proto oa l c L w1 hl hL h
  rw [← hnn] at tk
  have HS := Lib.hid hS
  have HL := Lib.hid hL
  have HN := Lib.hid hn
  have rt := (fun w1 h1 => natRight_any lo hi oa l c L w1 hl hlc hL h1)
  have nm := (fun w1 => named_any x w1)
  rw [h1] at rt
  rw [h2] at nm
  have RT := Lib.hid rt
  have NM := Lib.hid nm
  have CH := Lib.hid chs
  have TK := Lib.hid tk
  have FI := Lib.hid (show nidxI (L.findIdx? (innerB x)) = -1 by rw [hf]; rfl)
  obtain ⟨xp, xi, xn, xo, xt⟩ := x
  clear hS hL hn rt nm h1 h2 hf chs tk hR1 hR2 hnn
  go_enter Tryz.func149, Tryz.ntmps149
  go_wp2_with (first
    | (go_at_call 38; refine (cloneL_any oa l c L _ hl HL.out (HS.out.on (by (exact jkc))) HN.out).mono ?_; rintro e w' ⟨ob, cap, rfl, ⟨osj, dj, rfl⟩, hown⟩; have Hown := Lib.hid hown; clear hown)
    | (go_at_call 229; refine (RT.out _ (HS.out.on (by (exact jkc)))).mono ?_; rintro e w' ⟨rfl, ⟨osr, dr, rfl⟩⟩)
    | (go_at_call 230; refine (NM.out _).mono ?_; rintro e w' ⟨rfl, ⟨osn, dn, rfl⟩⟩)
    | (go_at_call 231; refine (find_inner ⟨xp, xi, xn, xo, xt⟩ ob l cap L _ hl HL.out ((own_ls Hown.out).on (by (exact jkc)))).mono ?_; rintro e w' ⟨rfl, ⟨osf, df, rfl⟩⟩; rw [FI.out]))
  have hj : Junk w ((w.alloc (.cells #[.int .i64 xp, .int .u32 xi, .int .i64 xn, .int .i64 xo, .int .i64 xt] 52)).junk (osj ++ (osr ++ (osn ++ osf))) df) := by (exact jkc)
  have ho : Own (w.heap.size + 1) ((w.alloc (.cells #[.int .i64 xp, .int .u32 xi, .int .i64 xn, .int .i64 xo, .int .i64 xt] 52)).junk (osj ++ (osr ++ (osn ++ osf))) df) 52 5 ob cap l (lnsL L) := (Hown.out.on (by (exact jkc))).lower (by simp)
  have x0 : ((w.alloc (.cells #[.int .i64 xp, .int .u32 xi, .int .i64 xn, .int .i64 xo, .int .i64 xt] 52)).junk (osj ++ (osr ++ (osn ++ osf))) df).cell? ⟨w.heap.size, 0, none⟩ = some (.int .i64 xp) := by simp [go_sem]
  have x1 : ((w.alloc (.cells #[.int .i64 xp, .int .u32 xi, .int .i64 xn, .int .i64 xo, .int .i64 xt] 52)).junk (osj ++ (osr ++ (osn ++ osf))) df).cell? ⟨w.heap.size, 1, none⟩ = some (.int .u32 xi) := by simp [go_sem]
  have x2 : ((w.alloc (.cells #[.int .i64 xp, .int .u32 xi, .int .i64 xn, .int .i64 xo, .int .i64 xt] 52)).junk (osj ++ (osr ++ (osn ++ osf))) df).cell? ⟨w.heap.size, 2, none⟩ = some (.int .i64 xn) := by simp [go_sem]
  have x3 : ((w.alloc (.cells #[.int .i64 xp, .int .u32 xi, .int .i64 xn, .int .i64 xo, .int .i64 xt] 52)).junk (osj ++ (osr ++ (osn ++ osf))) df).cell? ⟨w.heap.size, 3, none⟩ = some (.int .i64 xo) := by simp [go_sem]
  have x4 : ((w.alloc (.cells #[.int .i64 xp, .int .u32 xi, .int .i64 xn, .int .i64 xo, .int .i64 xt] 52)).junk (osj ++ (osr ++ (osn ++ osf))) df).cell? ⟨w.heap.size, 4, none⟩ = some (.int .i64 xt) := by simp [go_sem]
  have hfz := frozen_new w #[.int .i64 xp, .int .u32 xi, .int .i64 xn, .int .i64 xo, .int .i64 xt] 52 (osj ++ (osr ++ (osn ++ osf))) df 3
  have hsz : w.heap.size < ((w.alloc (.cells #[.int .i64 xp, .int .u32 xi, .int .i64 xn, .int .i64 xo, .int .i64 xt] 52)).junk (osj ++ (osr ++ (osn ++ osf))) df).heap.size := by simp; omega
  generalize ((w.alloc (.cells #[.int .i64 xp, .int .u32 xi, .int .i64 xn, .int .i64 xo, .int .i64 xt] 52)).junk (osj ++ (osr ++ (osn ++ osf))) df) = V at hj ho x0 x1 x2 x3 x4 hsz hfz
  have HJ := Lib.hid hj
  have HO := Lib.hid ho
  clear hj ho Hown
  refine wp_region_mixj (V) [(0, true), (1, true), (2, true), (3, true), (4, true), (6, true), (7, true), (8, true), (5, false), (9, false), (10, true), (11, true), (12, true), (13, true), (14, true)] (by kernel_rfl) (by kernel_rfl) (by (exact jkc)) ?_; (iterate 8 (refine wpMix_q rfl (fun K hK => ?_); (go_simp; try go_bits); (refine hK _ ?_; clear hK K))); refine wpMix_e rfl (fun osm8_0 dm8_0 K hK => ?_); (go_simp; try go_bits); (go_at_call 234; refine (TK.out _ (HS.out.on (HJ.out.trans (by (exact jkc))))).mono ?_; rintro e w' ⟨ob2, cap2, rfl, ⟨osj2, dj2, rfl⟩, hown2⟩; rw [World.junk_junk] at hown2; have Hown2 := Lib.hid hown2; clear hown2); refine hK _ _ (Junk.pair (by (first | exact jkc | repeat (first | with_reducible exact Junk.refl _ | with_reducible exact Junk.app _ _ _ _ _ | with_reducible apply Junk.alloc | with_reducible apply Junk.junk | with_reducible apply Junk.drew | with_reducible apply Junk.drewN | (with_reducible refine Junk.setCell ?_ (by simp) _))))) ?_; clear hK K; refine wpMix_e rfl (fun osm8_1 dm8_1 K hK => ?_); (go_simp; try go_bits); (go_at_call 233; refine (CH.out _ _ _ (own_intAt (Hown2.out.on (by (exact jkc))))).mono ?_; rintro e w' ⟨rfl, ⟨osj3, dj3, rfl⟩⟩); refine hK _ _ (Junk.pair (by (first | exact jkc | repeat (first | with_reducible exact Junk.refl _ | with_reducible exact Junk.app _ _ _ _ _ | with_reducible apply Junk.alloc | with_reducible apply Junk.junk | with_reducible apply Junk.drew | with_reducible apply Junk.drewN | (with_reducible refine Junk.setCell ?_ (by simp) _))))) ?_; clear hK K; (iterate 5 (refine wpMix_q rfl (fun K hK => ?_); (go_simp; try go_bits); (refine hK _ ?_; clear hK K))); refine wpMix_nil (fun osm dm => ?_)
  cases R2 with
  | false =>
    have HE := Lib.hid (show RR = (L, 0, 8) from HRR.out)
    go_wp2
    go_returns
    exact ⟨ob, cap, by rw [HE.out, show (L, (0 : Int), (8 : Int)).1.length = l from HL.out]; rfl, HJ.out.trans (by (exact jkc)), by rw [HE.out, show (L, (0 : Int), (8 : Int)).1.length = l from HL.out]; exact (HO.out.on (by (exact jkc))).lower (by omega), by rw [HE.out, show (L, (0 : Int), (8 : Int)).1.length = l from HL.out]; exact HO.out.capLe.1⟩
  | true =>
    have HE := Lib.hid (show RR = (L ++ [⟨xp, xi, xn, R1, xt⟩], R1, 0) from HRR.out)
    have hlen : (L ++ [(⟨xp, xi, xn, R1, xt⟩ : Ln)]).length = l + 1 := by rw [List.length_append, HL.out]; rfl
    go_upto_region 12 with (fail)
    have hj2 : Junk w (V.setCell ⟨w.heap.size, 3, none⟩ (.int .i64 R1)) := HJ.out.setCell (Nat.le_refl _) _
    have ho2 : Own (w.heap.size + 1) (V.setCell ⟨w.heap.size, 3, none⟩ (.int .i64 R1)) 52 5 ob cap l (lnsL L) := own_setBelow HO.out (by simp) _
    have y0 : (V.setCell ⟨w.heap.size, 3, none⟩ (.int .i64 R1)).cell? ⟨w.heap.size, 0, none⟩ = some (.int .i64 xp) := by rw [World.cell?_setCell_other _ _ _ _ (by simp)]; exact x0
    have y1 : (V.setCell ⟨w.heap.size, 3, none⟩ (.int .i64 R1)).cell? ⟨w.heap.size, 1, none⟩ = some (.int .u32 xi) := by rw [World.cell?_setCell_other _ _ _ _ (by simp)]; exact x1
    have y2 : (V.setCell ⟨w.heap.size, 3, none⟩ (.int .i64 R1)).cell? ⟨w.heap.size, 2, none⟩ = some (.int .i64 xn) := by rw [World.cell?_setCell_other _ _ _ _ (by simp)]; exact x2
    have y3 : (V.setCell ⟨w.heap.size, 3, none⟩ (.int .i64 R1)).cell? ⟨w.heap.size, 3, none⟩ = some (.int .i64 R1) := World.cell?_setCell_same _ _ _ x3
    have y4 : (V.setCell ⟨w.heap.size, 3, none⟩ (.int .i64 R1)).cell? ⟨w.heap.size, 4, none⟩ = some (.int .i64 xt) := by rw [World.cell?_setCell_other _ _ _ _ (by simp)]; exact x4
    have hs2 : w.heap.size < (V.setCell ⟨w.heap.size, 3, none⟩ (.int .i64 R1)).heap.size := by simpa using hsz
    generalize V.setCell ⟨w.heap.size, 3, none⟩ (.int .i64 R1) = V2 at hj2 ho2 y0 y1 y2 y3 y4 hs2
    have HJ2 := Lib.hid hj2
    have HO2 := Lib.hid ho2
    clear hj2 ho2 HJ HO x0 x1 x2 x3 x4 hsz hfz
    go_wp2_with (at_builtin; (refine ap_own (W0 := w) rfl _ _ 45 rfl 52 (.agg #[.int .i64 0, .int .u32 0, .int .i64 0, .int .i64 0, .int .i64 0]) 5 40 (by kernel_rfl) rfl (by decide) Tryz.underlying45 (HJ2.out.trans (by (exact jkc))) ob cap l (lnsL L) rfl ((HO2.out.on (by (exact jkc))).lower (by omega)) _ 1 1 rfl (Ln.cells ⟨xp, xi, xn, R1, xt⟩) rfl (built_cells (by simp)) (fun h => by cases h) (Ln.one _) (by simp only [maxLen]; omega) (by omega) ?_; intro oa' cap' os' d' hown' _; rw [lnsL_one] at hown'; have Hown3 := Lib.hid hown'; clear hown'))
    go_returns
    exact ⟨oa', cap', by rw [HE.out, show (L ++ [(⟨xp, xi, xn, R1, xt⟩ : Ln)], R1, (0 : Int)).1.length = l + 1 from hlen]; rfl, by (exact jkc), by rw [HE.out, show (L ++ [(⟨xp, xi, xn, R1, xt⟩ : Ln)], R1, (0 : Int)).1.length = l + 1 from hlen]; exact Hown3.out, by rw [HE.out, show (L ++ [(⟨xp, xi, xn, R1, xt⟩ : Ln)], R1, (0 : Int)).1.length = l + 1 from hlen]; exact Hown3.out.capLe.1⟩
theorem ask_any (lo hi : Int) (oa : Option Addr) (l c : Nat) (L : List Ln) (x : Ln) (D : Nat) (w : World) (hl : l ≤ 1000000) (hlc : l ≤ c) (hL : L.length = l) (hS : LsAt w oa L) (hn : oa = none → l = 0 ∧ c = 0) (hD : D < 4294967296) :
    Calls Tryz.prog 149 #[.slice oa l c, .int .i64 lo, .int .i64 hi, x.val, .int .u32 (D : Int)] w (AskM w (askP lo hi L x D)) := by
  cases hb : natRight lo hi L && namedB x with
  | false => exact ask_bad lo hi oa l c L x D w hl hlc hL hS hn hb
  | true =>
    simp only [Bool.and_eq_true] at hb
    cases hf : L.findIdx? (innerB x) with
    | none => exact ask_new lo hi oa l c L x D w hl hlc hL hS hn hb.1 hb.2 hf hD
    | some k => exact ask_old lo hi oa l c L x D k w hl hlc hL hS hn hb.1 hb.2 hf
end Go.Proofs.YtfhkhnoiolkkdaaGreatDoor
set_option linter.unusedVariables false
set_option maxRecDepth 100000
set_option linter.unusedSimpArgs false
namespace Go.Proofs.YtfhkhnoiolkkdaaGreatDoor
open Go.RowKit
def Ln.zero : Ln := ⟨0, 0, 0, 0, 0⟩
def gotP (L : List Ln) : Option Nat → Ln × Bool
  | some i => ((L[i]?.getD Ln.zero), true)
  | none => (Ln.zero, false)
theorem got_some (oa : Option Addr) (l c i : Nat) (L : List Ln) (y : Ln) (w : World) (hy : L[i]? = some y) (hL : L.length = l) (hl : l ≤ 1000000) (hS : LsAt w oa L) :
    Calls Tryz.prog 262 #[.slice oa l c, .int .i64 (i : Int)] w fun e w' => e = .returned (.tuple #[y.val, .bool true]) ∧ Junk w w' := by
  have hi : i < l := by rw [← hL]; exact (List.getElem?_eq_some_iff.1 hy).1
  have hi2 : (i : Int) < (l : Int) := by omega
  obtain ⟨b, off, rfl, hb, c0, c1, c2, c3, c4⟩ := hS i y hy
  clear hS hy hL
  go_enter Tryz.func262, Tryz.ntmps262
  go_wp2
  go_returns
  exact ⟨rfl, by (exact jkc)⟩
theorem got_none (oa : Option Addr) (l c : Nat) (w : World) :
    Calls Tryz.prog 262 #[.slice oa l c, .int .i64 (-1)] w fun e w' => e = .returned (.tuple #[Ln.zero.val, .bool false]) ∧ Junk w w' := by
  go_enter Tryz.func262, Tryz.ntmps262
  go_wp2
  go_returns
  exact ⟨rfl, by (exact jkc)⟩
theorem got_any (oa : Option Addr) (l c : Nat) (L : List Ln) (o : Option Nat) (w : World) (ho : ∀ i, o = some i → i < L.length) (hL : L.length = l) (hl : l ≤ 1000000) (hS : LsAt w oa L) :
    Calls Tryz.prog 262 #[.slice oa l c, .int .i64 (nidxI o)] w fun e w' => e = .returned (.tuple #[(gotP L o).1.val, .bool (gotP L o).2]) ∧ Junk w w' := by
  cases o with
  | none => exact got_none oa l c w
  | some i =>
    have hi := ho i rfl
    have hy : L[i]? = some L[i] := List.getElem?_eq_getElem hi
    have hg : gotP L (some i) = (L[i], true) := by simp [gotP, hy]
    rw [hg]
    exact got_some oa l c i L _ w hy hL hl hS
theorem findIdx_lt {α : Type} {L : List α} {pr : α → Bool} : ∀ i, L.findIdx? pr = some i → i < L.length := fun i h => (List.findIdx?_eq_some_iff_getElem.1 h).1
def whoseP (L : List Ln) (proto inn inport : Int) : Ln × Bool := gotP L (L.findIdx? (innerB ⟨proto, inn, inport, 0, 0⟩))
theorem whose_any (proto inn inport : Int) (oa : Option Addr) (l c : Nat) (L : List Ln) (w : World) (hl : l ≤ 1000000) (hL : L.length = l) (hS : LsAt w oa L) :
    Calls Tryz.prog 197 #[.slice oa l c, .int .i64 proto, .int .u32 inn, .int .i64 inport] w fun e w' => e = .returned (.tuple #[(whoseP L proto inn inport).1.val, .bool (whoseP L proto inn inport).2]) ∧ Junk w w' := by
  have HS := Lib.hid hS
  clear hS
  obtain ⟨o, ho⟩ : ∃ o, o = L.findIdx? (innerB ⟨proto, inn, inport, 0, 0⟩) := ⟨_, rfl⟩
  have hb := Lib.hid (fun i (h : o = some i) => findIdx_lt (L := L) (pr := innerB ⟨proto, inn, inport, 0, 0⟩) i (by rw [← ho]; exact h))
  have hfd := fun w1 h => find_inner ⟨proto, inn, inport, 0, 0⟩ oa l c L w1 hl hL h
  have HE := Lib.hid (show whoseP L proto inn inport = gotP L o by unfold whoseP; rw [ho])
  rw [← ho] at hfd
  have FD := Lib.hid hfd
  rw [HE.out]
  clear ho hfd
  go_enter Tryz.func197, Tryz.ntmps197
  go_wp2_with (first
    | (go_at_call 231; refine (FD.out _ (HS.out.on (by (exact jkc)))).mono ?_; rintro e w' ⟨rfl, ⟨osj, dj, rfl⟩⟩)
    | (go_at_call 262; refine (got_any oa l c L o _ hb.out hL hl (HS.out.on (by (exact jkc)))).mono ?_; rintro e w' ⟨rfl, ⟨osj2, dj2, rfl⟩⟩))
  go_returns
  exact ⟨rfl, by (exact jkc)⟩
end Go.Proofs.YtfhkhnoiolkkdaaGreatDoor
set_option linter.unusedVariables false
set_option maxRecDepth 100000
set_option linter.unusedSimpArgs false
namespace Go.Proofs.YtfhkhnoiolkkdaaGreatDoor
open Go.RowKit
theorem tick1_any (x : Ln) (g : Nat) (now : Int) (w : World) (hg : g < w.heap.size) (hc : w.cell? ⟨g, 0, none⟩ = some (.int .i64 now)) :
    Calls Tryz.prog 87 #[x.val, .pointer (some ⟨g, 0, none⟩)] w fun e w' => e = .returned (.bool (decide (x.till ≤ now))) ∧ Junk w w' := by
  obtain ⟨xp, xi, xn, xo, xt⟩ := x
  go_enter Tryz.func87, Tryz.ntmps87
  go_wp2
  go_ret
  exact ⟨rfl, by (exact jkc)⟩
theorem indexT_any (oa : Option Addr) (l c : Nat) (L : List Ln) (pr : Ln → Bool) (v1 : Value) (w : World) (hl : l ≤ 1000000) (hL : L.length = l) (hS : LsAt w oa L)
    (hf : ∀ w1, Junk w w1 → ∀ x, Calls Tryz.prog 87 #[x.val, v1] w1 fun e w' => e = .returned (.bool (pr x)) ∧ Junk w1 w') :
    Calls Tryz.prog 155 #[.slice oa l c, .func (.func 87) #[] #[v1]] w fun e w' => e = .returned (.int .i64 (nidxI (L.findIdx? pr))) ∧ Junk w w' := by
  have HS := Lib.hid hS
  have HF := Lib.hid hf
  clear hS hf
  obtain ⟨T, hT⟩ : ∃ T, T = nidxI (L.findIdx? pr) := ⟨_, rfl⟩
  rw [← hT]
  have HT := Lib.hid hT
  have HL := Lib.hid hL
  clear hT hL
  go_enter Tryz.func155, Tryz.ntmps155
  go_wp2
  go_loopw [8] (fun i wr => ∃ k : Nat, i = .int .i64 (k : Int) ∧ Junk w wr ∧ k ≤ l ∧ Hid (∀ j, j < k → ∀ y, L[j]? = some y → pr y = false)) (fun i _ => l + 1 - (intOf i).toNat)
  case atStart => exact ⟨0, rfl, by (exact jkc), by omega, Lib.hid (fun j hj => by omega)⟩
  case round =>
    obtain ⟨k, rfl, ⟨os, d, rfl⟩, hk, hN⟩ := hrel
    by_cases hkl : k < l
    · have hk2 : (k : Int) < (l : Int) := by omega
      obtain ⟨x, hx⟩ : ∃ x, L[k]? = some x := ⟨_, List.getElem?_eq_getElem (by rw [HL.out]; exact hkl)⟩
      obtain ⟨b, off, rfl, hb, c0, c1, c2, c3, c4⟩ := HS.out k x hx
      have HX := Lib.hid hx
      clear hx
      cases hp : pr x with
      | true =>
        have HE := Lib.hid (show T = (k : Int) by rw [HT.out, nfindIdx_at hN.out HX.out hp]; rfl)
        go_wp2_with (first | (go_at_call 87; refine (HF.out _ (by (exact jkc)) x).mono ?_; rintro e w' ⟨rfl, ⟨osj, dj, rfl⟩⟩; rw [hp]))
        go_ret
        exact ⟨by rw [HE.out]; rfl, by (exact jkc)⟩
      | false =>
        have HN2 := Lib.hid (show ∀ j, j < k + 1 → ∀ y, L[j]? = some y → pr y = false from fun j hj y hy => by
          by_cases h : j = k
          · subst h; rw [HX.out] at hy; cases hy; exact hp
          · exact hN.out j (by omega) y hy)
        go_wp2_with (first | (go_at_call 87; refine (HF.out _ (by (exact jkc)) x).mono ?_; rintro e w' ⟨rfl, ⟨osj, dj, rfl⟩⟩; rw [hp]))
        exact ⟨⟨k + 1, by go_num, by (exact jkc), by omega, HN2⟩, by simp [intOf]; omega⟩
    · have hk2 : ¬ (k : Int) < (l : Int) := by omega
      obtain rfl : k = l := by omega
      have HE := Lib.hid (show T = -1 by rw [HT.out, nfindIdx_no (by rw [HL.out]; exact hN.out)]; rfl)
      go_wp2
      go_ret
      exact ⟨by rw [HE.out]; rfl, by (exact jkc)⟩

theorem own_shrink {B : Nat} {w : World} {e : TypeId} {size g cap n : Nat} {xs : List Value} (h : Own B w e size (some ⟨g, 0, none⟩) cap n xs) (m : Nat) (hm : m ≤ n) : Own B w e size (some ⟨g, 0, none⟩) cap m (xs.take (m * size)) := by
  have hl := h.len
  rcases h.form with ⟨h0, _⟩ | ⟨g', cur, h0, hb, hg, hnc, hcm, hcs, ht⟩
  · cases h0
  · cases h0
    have hms : m * size ≤ n * size := Nat.mul_le_mul_right _ hm
    refine ⟨by rw [List.length_take, hl]; omega, .inr ⟨g, cap, cur, rfl, hb, hg, by omega, hcm, hcs, ?_⟩⟩
    rw [← ht, List.take_take, Nat.min_eq_left hms]
theorem own_setCells {B : Nat} {e : TypeId} {size g cap n : Nat} : ∀ (vs : List Value) (o : Nat) (w : World) (xs : List Value), Own B w e size (some ⟨g, 0, none⟩) cap n xs →
    ∃ ys, Own B (w.setCells g o vs) e size (some ⟨g, 0, none⟩) cap n ys ∧ ys.take o = xs.take o
  | [], o, w, xs, h => ⟨xs, h, rfl⟩
  | v :: r, o, w, xs, h => by
    obtain ⟨ys, h1, h2⟩ := own_setCells r (o + 1) _ _ (own_stored h o v)
    refine ⟨ys, h1, ?_⟩
    have := congrArg (List.take o) h2
    rw [List.take_take, List.take_take, Nat.min_eq_left (by omega), List.take_set_of_le (Nat.le_refl o)] at this
    exact this
theorem lnsL_take (M : List Ln) (m : Nat) : (lnsL M).take (m * 5) = lnsL (M.take m) := by
  induction M generalizing m with
  | nil => simp [lnsL]
  | cons x M ih =>
    cases m with
    | zero => simp [lnsL]
    | succ m =>
      rw [lnsL_cons, List.take_succ_cons, lnsL_cons, List.take_append, Ln.cells_len, show (m + 1) * 5 - 5 = m * 5 by omega, ih, List.take_of_length_le (by rw [Ln.cells_len]; omega)]
theorem lnsL_put {x : Ln} : ∀ {L : List Ln} {k : Nat}, k < L.length → (((((lnsL L).set (k * 5) (.int .i64 x.proto)).set (k * 5 + 1) (.int .u32 x.inn)).set (k * 5 + 2) (.int .i64 x.inport)).set (k * 5 + 3) (.int .i64 x.port)).set (k * 5 + 4) (.int .i64 x.till) = lnsL (L.set k x)
  | [], k, h => by simp at h
  | y :: L, 0, h => by
    rw [lnsL_cons]
    rfl
  | y :: L, k + 1, h => by
    have e : ∀ (l : List Value) (i : Nat) (v : Value), (y.cells ++ l).set ((k + 1) * 5 + i) v = y.cells ++ l.set (k * 5 + i) v := fun l i v => by
      rw [List.set_append_right _ _ (by rw [Ln.cells_len]; omega), Ln.cells_len, show (k + 1) * 5 + i - 5 = k * 5 + i by omega]
    have e0 : ∀ (l : List Value) (v : Value), (y.cells ++ l).set ((k + 1) * 5) v = y.cells ++ l.set (k * 5) v := fun l v => e l 0 v
    rw [lnsL_cons, e0, e, e, e, e, lnsL_put (x := x) (L := L) (k := k) (by simpa using h)]
    rfl
theorem own_put {B : Nat} {w : World} {e : TypeId} {g cap n k : Nat} {M : List Ln} (x : Ln) (h : Own B w e 5 (some ⟨g, 0, none⟩) cap n (lnsL M)) (hk : k < M.length) :
    Own B (((((w.setCell ⟨g, k * 5, none⟩ (.int .i64 x.proto)).setCell ⟨g, k * 5 + 1, none⟩ (.int .u32 x.inn)).setCell ⟨g, k * 5 + 2, none⟩ (.int .i64 x.inport)).setCell ⟨g, k * 5 + 3, none⟩ (.int .i64 x.port)).setCell ⟨g, k * 5 + 4, none⟩ (.int .i64 x.till)) e 5 (some ⟨g, 0, none⟩) cap n (lnsL (M.set k x)) := by
  have := own_stored (own_stored (own_stored (own_stored (own_stored h (k * 5) (.int .i64 x.proto)) (k * 5 + 1) (.int .u32 x.inn)) (k * 5 + 2) (.int .i64 x.inport)) (k * 5 + 3) (.int .i64 x.port)) (k * 5 + 4) (.int .i64 x.till)
  rw [lnsL_put hk] at this
  exact this
structure DelInv (L M : List Ln) (pr : Ln → Bool) (i j : Nat) : Prop where
  len : M.length = L.length
  front : M.take i = (L.take j).filter fun x => !pr x
  back : M.drop j = L.drop j
theorem DelInv.start {L : List Ln} {pr : Ln → Bool} {k : Nat} {x : Ln} (h : L.findIdx? pr = some k) : DelInv L L pr k (k + 1) := by
  obtain ⟨hk, hp, hb⟩ := List.findIdx?_eq_some_iff_getElem.1 h
  refine ⟨rfl, ?_, rfl⟩
  rw [take_succ' (List.getElem?_eq_getElem hk), List.filter_append]
  have e1 : (L.take k).filter (fun x => !pr x) = L.take k := by
    rw [List.filter_eq_self]
    intro y hy
    obtain ⟨j, hj⟩ := List.getElem?_of_mem hy
    rw [List.getElem?_take] at hj
    split at hj
    · rename_i hjk
      rw [List.getElem?_eq_getElem (by omega)] at hj
      cases hj
      simpa using hb j hjk
    · cases hj
  rw [e1]
  simp [List.filter, hp]
theorem DelInv.skip {L M : List Ln} {pr : Ln → Bool} {i j : Nat} {x : Ln} (h : DelInv L M pr i j) (hx : L[j]? = some x) (hp : pr x = true) : DelInv L M pr i (j + 1) := by
  refine ⟨h.len, ?_, ?_⟩
  · rw [h.front, take_succ' hx, List.filter_append]; simp [List.filter, hp]
  · have := congrArg (List.drop 1) h.back
    simpa [List.drop_drop] using this
theorem DelInv.keep {L M : List Ln} {pr : Ln → Bool} {i j : Nat} {x : Ln} (h : DelInv L M pr i j) (hij : i < j) (hx : L[j]? = some x) (hp : pr x = false) : DelInv L (M.set i x) pr (i + 1) (j + 1) := by
  have hj : j < L.length := (List.getElem?_eq_some_iff.1 hx).1
  have hl := h.len
  refine ⟨by rw [List.length_set, h.len], ?_, ?_⟩
  · rw [take_succ' (x := x) (by rw [List.getElem?_set_self (by omega)]), List.take_set_of_le (Nat.le_refl i), h.front, take_succ' hx, List.filter_append]
    simp [List.filter, hp]
  · rw [List.drop_set_of_lt (by omega)]
    have := congrArg (List.drop 1) h.back
    simpa [List.drop_drop] using this
theorem DelInv.at_ {L M : List Ln} {pr : Ln → Bool} {i j : Nat} (h : DelInv L M pr i j) : M[j]? = L[j]? := by
  have := congrArg List.head? h.back
  simpa [List.head?_drop] using this
end Go.Proofs.YtfhkhnoiolkkdaaGreatDoor
set_option linter.unusedVariables false
set_option maxRecDepth 100000
set_option linter.unusedSimpArgs false
namespace Go.Proofs.YtfhkhnoiolkkdaaGreatDoor
open Go.RowKit
def XDelM (W0 : World) (R : List Ln) (e : Ending) (w' : World) : Prop :=
  ∃ ob cap, e = .returned (.slice ob R.length cap) ∧ Junk W0 w' ∧ Own W0.heap.size w' 52 5 ob cap R.length (lnsL R)
theorem run_clear_rows {P : Program} (w : World) (t e ty : TypeId) (z : Value) (ht : P.underlying t = some (.slice e)) (hv : ∀ w, (zeroValue e).run P w = .ok z w) (size : Nat) (hz : z.cells.size = size) (hs : 0 < size) (h1 : ∀ v ∈ z.cells.toList, v.oneCell' = true) (b o n c : Nat) (hn : 0 < n)
    (hc : ∀ j, j < n * size → (w.cell? ⟨b, o + j, none⟩).isSome = true) (hf : ∀ j, j < n * size → w.frozen? ⟨b, o + j, none⟩ = false) :
    ∃ vs, vs.length = n * size ∧ (Builtin.clear_ #[t] ty #[.slice (some ⟨b, o, none⟩) n c]).run P w = .ok (.tuple #[]) (w.setCells b o vs) := by
  have hl : (Builtin.zeroCells z.cells n).toList.length = n * size := by simp [Builtin.zeroCells, hz]
  have hone : ∀ v ∈ (Builtin.zeroCells z.cells n).toList, v.oneCell' = true := by
    intro v hv'
    simp only [Builtin.zeroCells, Array.toList_map, List.mem_map] at hv'
    obtain ⟨i, _, rfl⟩ := hv'
    have hi : i % z.cells.size < z.cells.size := Nat.mod_lt _ (by omega)
    rw [getElem!_pos z.cells _ hi]
    exact h1 _ (by simp)
  refine ⟨(Builtin.zeroCells z.cells n).toList, hl, ?_⟩
  have hst := run_storeCells_cells (P := P) b o (Builtin.zeroCells z.cells n).toList 0 w (by rw [hl]; simpa using hc) (by rw [hl]; simpa using hf) hone
  simp only [Nat.add_zero] at hst
  obtain ⟨m, rfl⟩ : ∃ m, n = m + 1 := ⟨n - 1, by omega⟩
  simp [Builtin.clear_, run_underlying ht, hv, hst]
theorem junk_setCells {W0 : World} {g : Nat} : ∀ (vs : List Value) (o : Nat) {w : World}, Junk W0 w → W0.heap.size ≤ g → Junk W0 (w.setCells g o vs)
  | [], o, w, h, hg => h
  | v :: r, o, w, h, hg => junk_setCells r (o + 1) (h.setCell (a := ⟨g, o, none⟩) hg v) hg
set_option maxHeartbeats 4000000 in
theorem del_none (oa : Option Addr) (l cap : Nat) (L : List Ln) (pr : Ln → Bool) (v1 : Value) (W0 w : World) (hl : l ≤ 1000000) (hL : L.length = l) (hj : Junk W0 w) (ho : Own W0.heap.size w 52 5 oa cap l (lnsL L))
    (hf : ∀ w1, Junk W0 w1 → ∀ x, Calls Tryz.prog 87 #[x.val, v1] w1 fun e w' => e = .returned (.bool (pr x)) ∧ Junk w1 w') (hi : L.findIdx? pr = none) :
    Calls Tryz.prog 86 #[.slice oa l cap, .func (.func 87) #[] #[v1]] w (XDelM W0 (L.filter fun x => !pr x)) := by
  have hR : L.filter (fun x => !pr x) = L := by
    rw [List.filter_eq_self]
    intro x hx
    have := List.findIdx?_eq_none_iff.1 hi x hx
    simp [this]
  rw [hR]
  have HO := Lib.hid ho
  have HJ := Lib.hid hj
  have HF := Lib.hid hf
  have HL := Lib.hid hL
  have HI := Lib.hid (show nidxI (L.findIdx? pr) = -1 by rw [hi]; rfl)
  clear hj ho hf hR hi hL
  go_enter Tryz.func86, Tryz.ntmps86
  go_wp2_with (first
    | (go_at_call 155; refine (indexT_any oa l cap L pr v1 _ hl HL.out (own_ls HO.out) (fun w1 h1 x => HF.out w1 (HJ.out.trans h1) x)).mono ?_; rintro e w' ⟨rfl, ⟨osj, dj, rfl⟩⟩; rw [HI.out]))
  go_ret
  exact ⟨oa, cap, by rw [HL.out]; rfl, HJ.out.trans (by (exact jkc)), by rw [HL.out]; exact HO.out.on (by (exact jkc))⟩
set_option maxHeartbeats 4000000 in
theorem del_some (oa : Option Addr) (l cap k : Nat) (L : List Ln) (pr : Ln → Bool) (v1 : Value) (W0 w : World) (hl : l ≤ 1000000) (hL : L.length = l) (hj : Junk W0 w) (ho : Own W0.heap.size w 52 5 oa cap l (lnsL L))
    (hf : ∀ w1, Junk W0 w1 → ∀ x, Calls Tryz.prog 87 #[x.val, v1] w1 fun e w' => e = .returned (.bool (pr x)) ∧ Junk w1 w') (hi : L.findIdx? pr = some k) :
    Calls Tryz.prog 86 #[.slice oa l cap, .func (.func 87) #[] #[v1]] w (XDelM W0 (L.filter fun x => !pr x)) := by
  have hk : k < l := by rw [← hL]; exact findIdx_lt k hi
  have hlc : l ≤ cap := ho.capLe.1
  obtain ⟨g, rfl⟩ := own_at0 ho (by omega)
  have HO := Lib.hid ho
  have HJ := Lib.hid hj
  have HF := Lib.hid hf
  have HL := Lib.hid hL
  have HI := Lib.hid (show nidxI (L.findIdx? pr) = (k : Int) by rw [hi]; rfl)
  have HST := Lib.hid (DelInv.start (x := Ln.zero) hi)
  have hne : ((k : Int) == -1) = false := by simp
  have hK : (k : Int) < (l : Int) := by omega
  clear hj ho hf hi hL
  go_enter Tryz.func86, Tryz.ntmps86
  go_wp2_with (first
    | (go_at_call 155; refine (indexT_any _ l cap L pr v1 _ hl HL.out (own_ls HO.out) (fun w1 h1 x => HF.out w1 (HJ.out.trans h1) x)).mono ?_; rintro e w' ⟨rfl, ⟨osj, dj, rfl⟩⟩; rw [HI.out]))
  go_loopw [5, 6] (fun i j wr => ∃ (a b : Nat) (M : List Ln), i = .int .i64 (a : Int) ∧ j = .int .i64 (b : Int) ∧ Junk W0 wr ∧ Own W0.heap.size wr 52 5 (some ⟨g, 0, none⟩) cap l (lnsL M) ∧ Hid (DelInv L M pr a b) ∧ a < b ∧ b ≤ l) (fun _ j _ => l + 1 - (intOf j).toNat)
  case atStart => exact ⟨k, k + 1, L, rfl, by go_num, HJ.out.trans (by (exact jkc)), HO.out.on (by (exact jkc)), HST, by omega, by omega⟩
  case round =>
    obtain ⟨a, b, M, rfl, rfl, ⟨os, d, rfl⟩, hown, hI, hab, hb⟩ := hrel
    by_cases hbl : b < l
    · have hb2 : (b : Int) < (l : Int) := by omega
      have ha2 : (a : Int) < (l : Int) := by omega
      obtain ⟨x, hx⟩ : ∃ x, L[b]? = some x := ⟨_, List.getElem?_eq_getElem (by rw [HL.out]; exact hbl)⟩
      obtain ⟨b', off', he', hg, c0, c1, c2, c3, c4⟩ := own_ls hown b x (by rw [hI.out.at_]; exact hx)
      cases he'
      rw [Nat.zero_add] at c0 c1 c2 c3 c4
      have Hown := Lib.hid hown
      have HX := Lib.hid hx
      clear hown hx
      cases hp : pr x with
      | true =>
        have HI2 := Lib.hid (hI.out.skip HX.out hp)
        generalize hV : W0.junk os d = V at hg c0 c1 c2 c3 c4 Hown
        have HV := Lib.hid (show Junk W0 V by rw [← hV]; (exact jkc))
        clear hV
        go_wp2_with (first | (go_at_call 87; refine (HF.out _ (HV.out.trans (by (exact jkc))) x).mono ?_; rintro e w' ⟨rfl, ⟨osj2, dj2, rfl⟩⟩; rw [hp]))
        exact ⟨⟨a, b + 1, M, rfl, by go_num, HV.out.trans (by (exact jkc)), Hown.out.on (by (exact jkc)), HI2, by omega, by omega⟩, by simp [intOf]; omega⟩
      | false =>
        have HI2 := Lib.hid (hI.out.keep hab HX.out hp)
        generalize hV : W0.junk os d = V at hg c0 c1 c2 c3 c4 Hown
        have HV := Lib.hid (show Junk W0 V by rw [← hV]; (exact jkc))
        clear hV
        obtain ⟨xp, xi, xn, xo, xt⟩ := x
        go_upto_region 9 with (first | (go_at_call 87; refine (HF.out _ (HV.out.trans (by (exact jkc))) ⟨xp, xi, xn, xo, xt⟩).mono ?_; rintro e w' ⟨rfl, ⟨osj2, dj2, rfl⟩⟩; rw [hp]))
        have x0 : ((V.alloc (.cells #[.int .i64 xp, .int .u32 xi, .int .i64 xn, .int .i64 xo, .int .i64 xt] 52)).junk osj2 dj2).cell? ⟨V.heap.size, 0, none⟩ = some (.int .i64 xp) := by simp [go_sem]
        have x1 : ((V.alloc (.cells #[.int .i64 xp, .int .u32 xi, .int .i64 xn, .int .i64 xo, .int .i64 xt] 52)).junk osj2 dj2).cell? ⟨V.heap.size, 1, none⟩ = some (.int .u32 xi) := by simp [go_sem]
        have x2 : ((V.alloc (.cells #[.int .i64 xp, .int .u32 xi, .int .i64 xn, .int .i64 xo, .int .i64 xt] 52)).junk osj2 dj2).cell? ⟨V.heap.size, 2, none⟩ = some (.int .i64 xn) := by simp [go_sem]
        have x3 : ((V.alloc (.cells #[.int .i64 xp, .int .u32 xi, .int .i64 xn, .int .i64 xo, .int .i64 xt] 52)).junk osj2 dj2).cell? ⟨V.heap.size, 3, none⟩ = some (.int .i64 xo) := by simp [go_sem]
        have x4 : ((V.alloc (.cells #[.int .i64 xp, .int .u32 xi, .int .i64 xn, .int .i64 xo, .int .i64 xt] 52)).junk osj2 dj2).cell? ⟨V.heap.size, 4, none⟩ = some (.int .i64 xt) := by simp [go_sem]
        have hj3 : Junk W0 ((V.alloc (.cells #[.int .i64 xp, .int .u32 xi, .int .i64 xn, .int .i64 xo, .int .i64 xt] 52)).junk osj2 dj2) := HV.out.trans (by (exact jkc))
        have ho3 : Own W0.heap.size ((V.alloc (.cells #[.int .i64 xp, .int .u32 xi, .int .i64 xn, .int .i64 xo, .int .i64 xt] 52)).junk osj2 dj2) 52 5 (some ⟨g, 0, none⟩) cap l (lnsL M) := Hown.out.on (by (exact jkc))
        have hg3 : g < ((V.alloc (.cells #[.int .i64 xp, .int .u32 xi, .int .i64 xn, .int .i64 xo, .int .i64 xt] 52)).junk osj2 dj2).heap.size := by simp; omega
        generalize ((V.alloc (.cells #[.int .i64 xp, .int .u32 xi, .int .i64 xn, .int .i64 xo, .int .i64 xt] 52)).junk osj2 dj2) = V3 at x0 x1 x2 x3 x4 hj3 ho3 hg3
        have haM : a < M.length := by rw [hI.out.len, HL.out]; omega
        have HO4 := Lib.hid (own_put ⟨xp, xi, xn, xo, xt⟩ ho3 haM)
        have HJ4 := Lib.hid (fun j v => hj3.setCell (a := ⟨g, j, none⟩) (own_ge ho3) v)
        have w0 := World.ownsRow.frozenAt ho3 (a * 5)
        have w1 := World.ownsRow.frozenAt ho3 (a * 5 + 1)
        have w2 := World.ownsRow.frozenAt ho3 (a * 5 + 2)
        have w3 := World.ownsRow.frozenAt ho3 (a * 5 + 3)
        have w4 := World.ownsRow.frozenAt ho3 (a * 5 + 4)
        obtain ⟨b3, off3, he3, _, z0, z1, z2, z3, z4⟩ := own_ls ho3 a M[a] (List.getElem?_eq_getElem haM)
        cases he3
        rw [Nat.zero_add] at z0 z1 z2 z3 z4
        have HGE := Lib.hid (own_ge ho3)
        have HJ3 := Lib.hid hj3
        clear hj3 ho3 c0 c1 c2 c3 c4 hg
        go_wp2
        exact ⟨⟨a + 1, b + 1, M.set a ⟨xp, xi, xn, xo, xt⟩, by go_num, by go_num, ((((HJ3.out.setCell HGE.out _).setCell HGE.out _).setCell HGE.out _).setCell HGE.out _).setCell HGE.out _, HO4.out, HI2, by omega, by omega⟩, by simp [intOf]; omega⟩
    · have hb2 : ¬ (b : Int) < (l : Int) := by omega
      obtain rfl : b = l := by omega
      have Hown := Lib.hid hown
      generalize hV : W0.junk os d = V at hown Hown
      have HV := Lib.hid (show Junk W0 V by rw [← hV]; (exact jkc))
      clear hV
      have hML : M.length = b := by rw [hI.out.len, HL.out]
      have HR := Lib.hid (show M.take a = L.filter (fun x => !pr x) by rw [hI.out.front, ← HL.out, List.take_length])
      have ha2 : (a : Int) ≤ (b : Int) := by omega
      have hac : ¬ cap = a := by omega
      have hac2 : (a : Int) ≤ (cap : Int) := by omega
      have hcl : ∀ ty, ∃ vs, vs.length = (b - a) * 5 ∧ (Builtin.clear_ #[45] ty #[.slice (some ⟨g, a * 5, none⟩) (b - a) (cap - a)]).run Tryz.prog V = .ok (.tuple #[]) (V.setCells g (a * 5) vs) := fun ty =>
        run_clear_rows V 45 52 ty (.agg #[.int .i64 0, .int .u32 0, .int .i64 0, .int .i64 0, .int .i64 0]) Tryz.underlying45 (fun w => by kernel_rfl) 5 rfl (by decide) (by decide) g (a * 5) (b - a) (cap - a) (by omega)
          (fun j hj => by
            rw [World.ownsRow.cellAt hown (a * 5 + j) (by omega), List.getElem?_eq_getElem (by rw [lnsL_len, hML]; omega)]
            rfl)
          (fun j hj => World.ownsRow.frozenAt hown _)
      obtain ⟨vs, hvs, hcl⟩ := hcl 0
      obtain ⟨ys, hy1, hy2⟩ := own_setCells vs (a * 5) V _ hown
      have HO5 := Lib.hid (show Own W0.heap.size (V.setCells g (a * 5) vs) 52 5 (some ⟨g, 0, none⟩) cap a (lnsL (M.take a)) by
        have := own_shrink hy1 a (by omega)
        rw [hy2, lnsL_take] at this
        exact this)
      have HJ5 := Lib.hid (junk_setCells vs (a * 5) HV.out (own_ge hown))
      clear hown hy1 hy2 hvs ys
      generalize V.setCells g (a * 5) vs = V5 at hcl HO5 HJ5
      have hRl : (L.filter fun x => !pr x).length = a := by rw [← HR.out, List.length_take, hML]; omega
      have ha3 : a ≤ cap := by omega
      have ha4 : (a : Int) ≤ (cap : Int) := by omega
      have HRL := Lib.hid hRl
      clear hRl
      go_wp2
      go_ret
      exact ⟨some ⟨g, 0, none⟩, cap, by rw [HRL.out]; rfl, HJ5.out.trans (by (exact jkc)), by rw [HRL.out, ← HR.out]; exact HO5.out.on (by (exact jkc))⟩
theorem delete_any (oa : Option Addr) (l cap : Nat) (L : List Ln) (pr : Ln → Bool) (v1 : Value) (W0 w : World) (hl : l ≤ 1000000) (hL : L.length = l) (hj : Junk W0 w) (ho : Own W0.heap.size w 52 5 oa cap l (lnsL L))
    (hf : ∀ w1, Junk W0 w1 → ∀ x, Calls Tryz.prog 87 #[x.val, v1] w1 fun e w' => e = .returned (.bool (pr x)) ∧ Junk w1 w') :
    Calls Tryz.prog 86 #[.slice oa l cap, .func (.func 87) #[] #[v1]] w (XDelM W0 (L.filter fun x => !pr x)) := by
  cases hi : L.findIdx? pr with
  | none => exact del_none oa l cap L pr v1 W0 w hl hL hj ho hf hi
  | some k => exact del_some oa l cap k L pr v1 W0 w hl hL hj ho hf hi
def tickL (L : List Ln) (now : Int) : List Ln := L.filter fun x => !decide (x.till ≤ now)
def XTickM (w : World) (L : List Ln) (now : Int) (e : Ending) (w' : World) : Prop :=
  ∃ ob cap, e = .returned (.tuple #[.slice ob (tickL L now).length cap, .int .i64 ((L.length - (tickL L now).length : Nat) : Int)]) ∧ Junk w w' ∧ Own w.heap.size w' 52 5 ob cap (tickL L now).length (lnsL (tickL L now))
theorem xtick_any (now : Int) (oa : Option Addr) (l c : Nat) (L : List Ln) (w : World) (hl : l ≤ 1000000) (hL : L.length = l) (hS : LsAt w oa L) (hn : oa = none → l = 0 ∧ c = 0) :
    Calls Tryz.prog 34 #[.slice oa l c, .int .i64 now] w (XTickM w L now) := by
  have HS := Lib.hid hS
  have HL := Lib.hid hL
  have HN := Lib.hid hn
  have hmf : ∀ (fn : Fn) (first cap : Array Value) (w : World), (Instr.makeFunc fn first cap).run Tryz.prog w = .ok (.func fn first cap) w := fun _ _ _ _ => rfl
  obtain ⟨m, hm⟩ : ∃ m, m = (tickL L now).length := ⟨_, rfl⟩
  have hml : m ≤ l := by rw [hm, ← hL]; exact List.length_filter_le _ _
  have hsub : (l : Int) - (m : Int) = ((l - m : Nat) : Int) := by omega
  have HM := Lib.hid hm
  clear hS hL hn hm
  go_enter Tryz.func34, Tryz.ntmps34
  go_wp2_with (first
    | (go_at_call 38; refine (cloneL_any oa l c L _ hl HL.out (HS.out.on (by (exact jkc))) HN.out).mono ?_; rintro e w' ⟨ob, cap, rfl, ⟨osj, dj, rfl⟩, hown⟩; have Hown := Lib.hid hown; clear hown)
    | (go_at_call 86; refine (delete_any ob l cap L (fun x => decide (x.till ≤ now)) _ (w.alloc (.cells #[.int .i64 now] 3)) _ hl HL.out (by (exact jkc)) Hown.out (fun w1 h1 x => tick1_any x w.heap.size now w1 (Nat.lt_of_lt_of_le (by simp) h1.size) (((h1.below (Nat.le_refl _)).cell (p := ⟨w.heap.size, 0, none⟩) (by simp)).trans (by simp)))).mono ?_; rintro e w' ⟨ob2, cap2, rfl, ⟨osj2, dj2, rfl⟩, hown2⟩; rw [show (L.filter fun x => !decide (x.till ≤ now)).length = m from HM.out.symm]; have Hown2 := Lib.hid hown2; clear hown2))
  go_returns
  exact ⟨ob2, cap2, by rw [← HM.out, HL.out]; rfl, by (exact jkc), by rw [← HM.out]; have := Hown2.out; rw [show (L.filter fun x => !decide (x.till ≤ now)).length = m from HM.out.symm] at this; exact this.lower (by simp)⟩
end Go.Proofs.YtfhkhnoiolkkdaaGreatDoor
set_option linter.unusedVariables false
set_option maxRecDepth 100000
set_option linter.unusedSimpArgs false
namespace Go.Proofs.YtfhkhnoiolkkdaaGreatDoor
open Go.RowKit
structure Snt (w w' : World) (n cn : Nat) (z : Int) (T src a : Int) (bl : Nat) (body : Nat → Int) (o : Option Addr) (c : Nat) : Prop where
  j : Junk w w'
  le : w.heap.size ≤ n
  own : Own w.heap.size w' 70 2 (some ⟨n, 0, none⟩) cn 1 [.int .i64 z, .slice o (20 + bl) c]
  b : Bts w' o (20 + bl) c (pktB (Pk T src a bl body))
set_option maxHeartbeats 4000000 in
theorem vsent_any (v G a p : Nat) (z T src : Int) (ra : Option Addr) (rc : Nat) (bl : Nat) (body : Nat → Int) (oo ob : Option Addr) (oc bc : Nat) (w : World) (hv : v < w.heap.size) (hG : G < w.heap.size) (v0 : w.cell? ⟨v, 0, none⟩ = some (.pointer (some ⟨G, 0, none⟩))) (g3 : w.cell? ⟨G, 3, none⟩ = some (.slice ra 2 rc)) (hW : Way a p z) (hrc : 2 ≤ rc) (hS : RosAt w ra roM)
    (hT : 0 ≤ T ∧ T ≤ 255) (h0 : 0 < bl) (hb : bl ≤ 1000) (hP : IpAt w (Pk T src a bl body) oo oc ob bc) :
    Calls Tryz.prog 193 #[.pointer (some ⟨v, 0, none⟩), .agg #[.int .i64 0, .int .i64 0, .bool false, .bool false, .int .i64 0, .int .i64 T, .int .i64 17, .int .u32 src, .int .u32 (a : Int), .slice oo 0 oc, .slice ob bl bc]] w fun e w' => ∃ n cn o c, e = .returned (.tuple #[.slice (some ⟨n, 0, none⟩) 1 cn, .int .i64 0]) ∧ Snt w w' n cn z T src a bl body o c := by
  obtain ⟨rn, hrn⟩ : ∃ x : Int, x = if p = 8 then 167772160 else 0 := ⟨_, rfl⟩
  obtain ⟨rm, hrm⟩ : ∃ x : Int, x = if p = 8 then 8 else 0 := ⟨_, rfl⟩
  have HF := Lib.hid (fun w1 (hj : Junk w w1) => find13 a p z rn rm ra rc w1 hW hrn hrm hrc (hS.on hj))
  have HC := Lib.hid (fun w1 (hj : Junk w w1) => pk_cut T src a bl body oo ob oc bc w1 hT h0 hb (hP.on hj))
  have HPT := Lib.hid (fun o1 o2 c1 c2 w1 h => pk_put T src a bl body o1 o2 c1 c2 w1 hT hb h)
  clear hS hP hW hrn hrm
  go_enter Tryz.func193, Tryz.ntmps193
  go_upto_region 1 with (fail)
  refine wp_keep (fun V => Junk w V ∧ Box V w.heap.size 36 [.int .i64 0, .int .i64 0, .bool false, .bool false, .int .i64 0, .int .i64 T, .int .i64 17, .int .u32 src, .int .u32 (a : Int), .slice oo 0 oc, .slice ob bl bc]) ⟨by (exact jkc), (box_at' (V := w) rfl rfl).on (by (exact jkc))⟩ ?_
  intro V ⟨h1, h2⟩
  have H1 := Lib.hid (And.intro h1 h2)
  have v0 := ((h1.below (Nat.le_refl _)).cell hv).trans v0
  have g3 := ((h1.below (Nat.le_refl _)).cell hG).trans g3
  have hv := Nat.lt_of_lt_of_le hv h1.size
  have hG := Nat.lt_of_lt_of_le hG h1.size
  have p8 := h2.cell (j := 8) rfl
  have hp := h2.lt
  clear h1 h2
  refine wp_region_mixa (V) [(14, 139, [.int .u32 0, .int .i64 0, .int .i64 0, .int .i64 0])] [15, 16] [13] #[true, true, true, true, true, true, true, true, true, true, true, true, true, true, true, false, false] [(0, true), (1, true), (2, true), (3, true), (4, true), (5, true), (6, true), (7, true), (8, true), (9, true), (10, false), (11, true), (12, true), (13, true)] [(15, false), (16, false)] (by kernel_rfl) (by kernel_rfl) (by (exact jkc)) (by intro e he a w hj; rcases (show e = 14 by simpa using he) with rfl <;> exact newVar_wpE rfl rfl rfl rfl (fun w => by first | rfl | kernel_rfl | simp [Instr.alloc]) a w hj) ?_; (iterate 10 (refine wpMixB_q rfl (fun K hK => ?_); (go_simp; try go_bits); (refine hK _ ?_; clear hK K))); refine wpMixB_e rfl (fun osm1_0 dm1_0 K hK => ?_); (go_simp; try go_bits); (go_at_call 126; (with_reducible refine (HF.out _ (H1.out.1.trans (by (exact jkc)))).mono ?_); rintro e w' ⟨rfl, ⟨osF, dF, rfl⟩⟩); refine hK _ _ (by first | exact jkc | assumption) ?_; clear hK K; (iterate 3 (refine wpMixB_q rfl (fun K hK => ?_); (go_simp; try go_bits); (refine hK _ ?_; clear hK K))); refine wpMixB_nil (fun osm1_1 dm1_1 => ?_); rintro _ ⟨r1_0, rfl, hr1_0, hv1_0⟩; change wpMix _ _ _ _ _ (Act.put _ (some 6) _) _; have HV1_0 := Lib.hid (show (V).heap.size ≤ r1_0 ∧ Box _ r1_0 139 [.int .u32 0, .int .i64 0, .int .i64 0, .int .i64 0] from And.intro hr1_0 hv1_0); clear hr1_0 hv1_0; refine wpMix_e1 rfl rfl (fun osm1_2 dm1_2 K hK => ?_); (refine storeBox_wp 139 _ _ rfl (HV1_0.out.2.on ⟨osm1_2, dm1_2, rfl⟩) 0 #[.int .u32 rn, .int .i64 rm, .int .i64 z, .int .i64 1500] (show (Tryz.prog.info? 139).map (·.size) = some 4 from by kernel_rfl) rfl rfl (by simp) (by simp [Value.oneCell']) ?_; intro w6 hg6 hb6; have HJ6 := Lib.hid (below_of_grown (show Junk V _ by (exact jkc)) hg6 (fun k hk => by cases hk; exact HV1_0.out.1)); have HB6 := Lib.hid (show Box w6 r1_0 139 [.int .u32 rn, .int .i64 rm, .int .i64 z, .int .i64 1500] from hb6); clear hg6 hb6); refine hK _ _ trivial ?_; clear hK K; refine wpMix_e rfl (fun osm1_3 dm1_3 K hK => ?_); (go_simp; try go_bits); refine hK _ _ trivial ?_; clear hK K; refine wpMix_nil (fun osm dm => ?_)
  go_upto_region 2 with (fail)
  refine wp_keep (fun X => Junk w X ∧ Box X w.heap.size 36 [.int .i64 0, .int .i64 0, .bool false, .bool false, .int .i64 0, .int .i64 T, .int .i64 17, .int .u32 src, .int .u32 (a : Int), .slice oo 0 oc, .slice ob bl bc] ∧ Box X r1_0 139 [.int .u32 rn, .int .i64 rm, .int .i64 z, .int .i64 1500]) ⟨H1.out.1.trans (HJ6.out.trans (by (exact jkc))), by
    exact ((H1.out.2.tch (L := fun _ => False) (Tch.of_junk HJ6.out) (fun e => e)).on (by (exact jkc))), HB6.out.on (by (exact jkc))⟩ ?_
  intro X ⟨h1, h2, h3⟩
  have H2 := Lib.hid (And.intro h1 (And.intro h2 h3))
  have e0 := h2.cell (j := 0) rfl
  have e1 := h2.cell (j := 1) rfl
  have e2 := h2.cell (j := 2) rfl
  have e3 := h2.cell (j := 3) rfl
  have e4 := h2.cell (j := 4) rfl
  have e5 := h2.cell (j := 5) rfl
  have e6 := h2.cell (j := 6) rfl
  have e7 := h2.cell (j := 7) rfl
  have e8 := h2.cell (j := 8) rfl
  have e9 := h2.cell (j := 9) rfl
  have e10 := h2.cell (j := 10) rfl
  have x2 := h3.cell (j := 2) rfl
  have x3 := h3.cell (j := 3) rfl
  have hp := h2.lt
  have hr := h3.lt
  clear h1 h2 h3 H1 HJ6 HB6 HV1_0 v0 g3 p8 HF hG hv
  go_upto_region 5 with (first | (go_at_call 259; (with_reducible refine (HC.out _ (H2.out.1.trans (by (exact jkc)))).mono ?_); rintro e w7 ⟨n, o1, o2, c1, c2, rfl, hj7, hn, hB, hI⟩; obtain ⟨os7, d7, rfl⟩ := hj7; have H7 := Lib.hid (And.intro hn (And.intro hB hI)); clear hn hB hI))
  refine wp_keep (fun Y => Junk w Y ∧ Box Y r1_0 139 [.int .u32 rn, .int .i64 rm, .int .i64 z, .int .i64 1500] ∧ Box Y n 36 [.int .i64 0, .int .i64 0, .bool false, .bool false, .int .i64 0, .int .i64 T, .int .i64 17, .int .u32 src, .int .u32 (a : Int), .slice o1 0 c1, .slice o2 bl c2] ∧ IpAt Y (Pk T src a bl body) o1 c1 o2 c2) ⟨H2.out.1.trans (by (exact jkc)), H2.out.2.2.on (by (exact jkc)), H7.out.2.1.on (by (exact jkc)), H7.out.2.2.on (by (exact jkc))⟩ ?_
  intro Y ⟨h1, h2, h3, h4⟩
  have H3 := Lib.hid (And.intro h1 (And.intro h2 (And.intro h3 h4)))
  clear e0 e1 e2 e3 e4 e5 e6 e7 e8 e9 e10 x2 x3 hp hr H2 H7 HC
  have e0 := h3.cell (j := 0) rfl
  have e1 := h3.cell (j := 1) rfl
  have e2 := h3.cell (j := 2) rfl
  have e3 := h3.cell (j := 3) rfl
  have e4 := h3.cell (j := 4) rfl
  have e5 := h3.cell (j := 5) rfl
  have e6 := h3.cell (j := 6) rfl
  have e7 := h3.cell (j := 7) rfl
  have e8 := h3.cell (j := 8) rfl
  have e9 := h3.cell (j := 9) rfl
  have e10 := h3.cell (j := 10) rfl
  have x2 := h2.cell (j := 2) rfl
  have hp := h3.lt
  have hr := h2.lt
  have hwY := h1.size
  clear h1 h2 h3 h4
  go_wp2
  refine wp_loop_rounds 2 ?_
  rw [rounds_succ]
  go_upto_region 10 with (first
    | (go_at_call 28; (with_reducible refine (HPT.out o1 o2 c1 c2 _ (H3.out.2.2.2.on (by (exact jkc)))).mono ?_); rintro e w8 ⟨o, c, rfl, ⟨os8, d8, rfl⟩, hb8, -⟩; have H8 := Lib.hid hb8; clear hb8))
  refine wp_keep (fun Z => Junk w Z ∧ Box Z r1_0 139 [.int .u32 rn, .int .i64 rm, .int .i64 z, .int .i64 1500] ∧ Bts Z o (20 + bl) c (pktB (Pk T src a bl body))) ⟨H3.out.1.trans (by (exact jkc)), H3.out.2.1.on (by (exact jkc)), H8.out.on (by (exact jkc))⟩ ?_
  intro Z ⟨h1, h2, h3⟩
  have H4 := Lib.hid (And.intro h1 h3)
  clear e0 e1 e2 e3 e4 e5 e6 e7 e8 e9 e10 x2 hp hr H3 H8 hwY HPT
  have x2 := h2.cell (j := 2) rfl
  have hr := h2.lt
  have hwZ := h1.size
  clear h1 h2 h3
  go_wp2_with (first
    | (at_builtin; (refine ap_own (W0 := Z) rfl _ _ 31 rfl 70 (.agg #[.int .i64 0, .slice none 0 0]) 2 32 (by kernel_rfl) rfl (by decide) Tryz.underlying31 (by (exact jkc)) _ 0 0 [] rfl (Own.nil _ _ _ _) _ 1 1 rfl [.int .i64 z, .slice o (20 + bl) c] rfl (built_cells (by simp)) (fun h => by cases h) (by simp [Value.oneCell']) (by simp only [maxLen]; omega) (by omega) ?_; intro oa1 cap1 os1 d1 hown hn1; have HO := Lib.hid hown; clear hown hn1)))
  rw [rounds_succ]
  go_wp2
  go_returns
  obtain ⟨g, hg⟩ := own_at0 HO.out (by decide)
  subst hg
  refine ⟨g, cap1, o, c, rfl, H4.out.1.trans (by (exact jkc)), ?_, ?_, H4.out.2.on (by (exact jkc))⟩
  · have := (own_at_le HO.out).1; omega
  · exact (HO.out.lower hwZ).on (by (exact jkc))
end Go.Proofs.YtfhkhnoiolkkdaaGreatDoor
set_option linter.unusedVariables false
set_option maxRecDepth 100000
set_option linter.unusedSimpArgs false
namespace Go.Proofs.YtfhkhnoiolkkdaaGreatDoor
open Go.RowKit
theorem Snt.from {w w1 w' : World} {n cn bl c : Nat} {z T src a : Int} {body : Nat → Int} {o : Option Addr} (h : Snt w1 w' n cn z T src a bl body o c) (hj : Junk w w1) : Snt w w' n cn z T src a bl body o c :=
  ⟨hj.trans h.j, Nat.le_trans hj.size h.le, h.own.lower hj.size, h.b⟩
theorem Snt.later {w w1 w' : World} {n cn bl c : Nat} {z T src a : Int} {body : Nat → Int} {o : Option Addr} (h : Snt w w1 n cn z T src a bl body o c) (hj : Junk w1 w') : Snt w w' n cn z T src a bl body o c :=
  ⟨h.j.trans hj, h.le, h.own.on hj, h.b.on hj⟩
set_option maxHeartbeats 4000000 in
theorem von_any (v G a p : Nat) (z T T' src : Int) (ra : Option Addr) (rc : Nat) (bl : Nat) (body : Nat → Int) (oo ob : Option Addr) (oc bc : Nat) (w : World) (hv : v < w.heap.size) (hG : G < w.heap.size) (v0 : w.cell? ⟨v, 0, none⟩ = some (.pointer (some ⟨G, 0, none⟩))) (g3 : w.cell? ⟨G, 3, none⟩ = some (.slice ra 2 rc)) (hW : Way a p z) (hrc : 2 ≤ rc) (hS : RosAt w ra roM)
    (hT : 2 ≤ T ∧ T ≤ 255) (hT' : T - 1 = T') (h0 : 0 < bl) (hb : bl ≤ 1000) (hP : IpAt w (Pk T src a bl body) oo oc ob bc) :
    Calls Tryz.prog 134 #[.pointer (some ⟨v, 0, none⟩), .agg #[.int .i64 0, .int .i64 0, .bool false, .bool false, .int .i64 0, .int .i64 T, .int .i64 17, .int .u32 src, .int .u32 (a : Int), .slice oo 0 oc, .slice ob bl bc]] w fun e w' => ∃ n cn o c, e = .returned (.tuple #[.slice (some ⟨n, 0, none⟩) 1 cn, .int .i64 0]) ∧ Snt w w' n cn z T' src a bl body o c := by
  have HH := Lib.hid (fun w1 (hj : Junk w w1) => pk_hop T T' src a bl body oo ob oc bc w1 hT hT' hb (hP.on hj))
  have HS := Lib.hid (fun o1 o2 c1 c2 w1 (hj : Junk w w1) hI => vsent_any v G a p z T' src ra rc bl body o1 o2 c1 c2 w1 (Nat.lt_of_lt_of_le hv hj.size) (Nat.lt_of_lt_of_le hG hj.size) (((hj.below (Nat.le_refl _)).cell hv).trans v0) (((hj.below (Nat.le_refl _)).cell hG).trans g3) hW hrc (hS.on hj) (by omega) h0 hb hI)
  clear hv hG v0 g3 hW hS hP hT hT'
  go_enter Tryz.func134, Tryz.ntmps134
  go_wp2_with (first
    | (go_at_call 191; (with_reducible refine (HH.out _ (by (exact jkc))).mono ?_); rintro e w1 ⟨o1, o2, c1, c2, rfl, ⟨os1, d1, rfl⟩, hI⟩; (try simp only [World.junk_junk, Array.append_assoc] at hI); have HI := Lib.hid hI; clear hI)
    | (go_at_call 193; (with_reducible refine (HS.out o1 o2 c1 c2 _ (by (exact jkc)) (HI.out.on (by (exact jkc)))).mono ?_); rintro e w2 ⟨n, cn, o, c, rfl, hs⟩; have HQ := Lib.hid hs; obtain ⟨os2, d2, rfl⟩ := hs.j; clear hs))
  go_returns
  exact ⟨n, cn, o, c, rfl, (HQ.out.from (by (exact jkc))).later (by (exact jkc))⟩
set_option maxHeartbeats 4000000 in
theorem vturned_any (v G a p : Nat) (z : Int) (ra : Option Addr) (rc : Nat) (src dst ts s d sp dp : Int) (bl : Nat) (body : Nat → Int) (oo ob : Option Addr) (oc bc : Nat) (F : Fl) (back : Bool) (w : World) (hv : v < w.heap.size) (hG : G < w.heap.size) (v0 : w.cell? ⟨v, 0, none⟩ = some (.pointer (some ⟨G, 0, none⟩))) (g3 : w.cell? ⟨G, 3, none⟩ = some (.slice ra 2 rc)) (hW : Way a p z) (hrc : 2 ≤ rc) (hS : RosAt w ra roM)
    (hF : (if back then F.there else F.back) = ⟨17, a, dp, ts, sp⟩) (hU : UdP (Pk 64 src dst bl body) s d) (hts : 0 ≤ ts ∧ ts ≤ 4294967295) (ha : (a : Int) ≤ 4294967295) (hsp : 0 ≤ sp ∧ sp ≤ 65535) (hdp : 0 ≤ dp ∧ dp ≤ 65535) (hb : bl ≤ 1000) (hP : IpAt w (Pk 64 src dst bl body) oo oc ob bc) :
    Calls Tryz.prog 138 #[.pointer (some ⟨v, 0, none⟩), .agg #[.int .i64 0, .int .i64 0, .bool false, .bool false, .int .i64 0, .int .i64 64, .int .i64 17, .int .u32 src, .int .u32 dst, .slice oo 0 oc, .slice ob bl bc], .agg #[.int .i64 F.there.proto, .int .u32 F.there.src, .int .i64 F.there.sport, .int .u32 F.there.dst, .int .i64 F.there.dport, .int .i64 F.back.proto, .int .u32 F.back.src, .int .i64 F.back.sport, .int .u32 F.back.dst, .int .i64 F.back.dport, .int .i64 F.till, .int .i64 F.note], .bool back] w fun e w' => ∃ n cn o c, e = .returned (.tuple #[.slice (some ⟨n, 0, none⟩) 1 cn, .int .i64 0]) ∧ Snt w w' n cn z 63 ts a bl (tn2 body src dst ts sp a dp) o c := by
  have h0 : 0 < bl := by have := hU.len; exact Nat.lt_of_lt_of_le (by decide) this
  have HB := Lib.hid (fun w1 (hj : Junk w w1) => pk_both 64 src dst s d ts sp a dp bl body oo ob oc bc w1 (hP.on hj) hU hb hts ⟨by omega, ha⟩ hsp hdp)
  have HS := Lib.hid (fun o1 o2 c1 c2 w1 (hj : Junk w w1) hI => von_any v G a p z 64 63 ts ra rc bl (tn2 body src dst ts sp a dp) o1 o2 c1 c2 w1 (Nat.lt_of_lt_of_le hv hj.size) (Nat.lt_of_lt_of_le hG hj.size) (((hj.below (Nat.le_refl _)).cell hv).trans v0) (((hj.below (Nat.le_refl _)).cell hG).trans g3) hW hrc (hS.on hj) (by decide) rfl h0 hb hI)
  obtain ⟨⟨t0, t1, t2, t3, t4⟩, ⟨b0, b1, b2, b3, b4⟩, till, note⟩ := F
  have HT1 := Lib.hid (fun w1 => show Calls Tryz.prog 130 #[.agg #[.int .i64 b0, .int .u32 b1, .int .i64 b2, .int .u32 b3, .int .i64 b4]] w1 fun e w' => e = .returned (.agg #[.int .i64 b0, .int .u32 b3, .int .i64 b4, .int .u32 b1, .int .i64 b2]) ∧ Junk w1 w' from tup_turn_any ⟨b0, b1, b2, b3, b4⟩ w1)
  have HT2 := Lib.hid (fun w1 => show Calls Tryz.prog 130 #[.agg #[.int .i64 t0, .int .u32 t1, .int .i64 t2, .int .u32 t3, .int .i64 t4]] w1 fun e w' => e = .returned (.agg #[.int .i64 t0, .int .u32 t3, .int .i64 t4, .int .u32 t1, .int .i64 t2]) ∧ Junk w1 w' from tup_turn_any ⟨t0, t1, t2, t3, t4⟩ w1)
  obtain ⟨B, hB⟩ : ∃ B, tn2 body src dst ts sp a dp = B := ⟨_, rfl⟩
  rw [hB] at HB HS ⊢
  clear hv hG v0 g3 hW hS hP hU hB
  cases back with
  | true =>
    have hF : (⟨t0, t1, t2, t3, t4⟩ : Tup) = ⟨17, a, dp, ts, sp⟩ := hF
    injection hF with q0 q1 q2 q3 q4
    subst q0 q1 q2 q3 q4
    go_enter Tryz.func138, Tryz.ntmps138
    go_wp2_with (first
      | (go_at_call 130; first | ((with_reducible refine (HT1.out _).mono ?_); rintro e wx ⟨rfl, ⟨ost, dt, rfl⟩⟩) | ((with_reducible refine (HT2.out _).mono ?_); rintro e wx ⟨rfl, ⟨osu, du, rfl⟩⟩))
      | (go_at_call 199; (with_reducible refine (HB.out _ (by (exact jkc))).mono ?_); rintro e w1 ⟨o1, o2, c1, c2, rfl, ⟨os1, d1, rfl⟩, hI⟩; (try simp only [World.junk_junk, Array.append_assoc] at hI); have HI := Lib.hid hI; clear hI)
      | (go_at_call 134; (with_reducible refine (HS.out o1 o2 c1 c2 _ (by (exact jkc)) (HI.out.on (by (exact jkc)))).mono ?_); rintro e w2 ⟨n, cn, o, c, rfl, hs⟩; have HQ := Lib.hid hs; obtain ⟨os2, d2, rfl⟩ := hs.j; clear hs))
    go_returns
    exact ⟨n, cn, o, c, rfl, (HQ.out.from (by (exact jkc))).later (by (exact jkc))⟩
  | false =>
    have hF : (⟨b0, b1, b2, b3, b4⟩ : Tup) = ⟨17, a, dp, ts, sp⟩ := hF
    injection hF with q0 q1 q2 q3 q4
    subst q0 q1 q2 q3 q4
    go_enter Tryz.func138, Tryz.ntmps138
    go_wp2_with (first
      | (go_at_call 130; ((with_reducible refine (HT1.out _).mono ?_); rintro e wx ⟨rfl, ⟨ost, dt, rfl⟩⟩))
      | (go_at_call 199; (with_reducible refine (HB.out _ (by (exact jkc))).mono ?_); rintro e w1 ⟨o1, o2, c1, c2, rfl, ⟨os1, d1, rfl⟩, hI⟩; (try simp only [World.junk_junk, Array.append_assoc] at hI); have HI := Lib.hid hI; clear hI)
      | (go_at_call 134; (with_reducible refine (HS.out o1 o2 c1 c2 _ (by (exact jkc)) (HI.out.on (by (exact jkc)))).mono ?_); rintro e w2 ⟨n, cn, o, c, rfl, hs⟩; have HQ := Lib.hid hs; obtain ⟨os2, d2, rfl⟩ := hs.j; clear hs))
    go_returns
    exact ⟨n, cn, o, c, rfl, (HQ.out.from (by (exact jkc))).later (by (exact jkc))⟩
end Go.Proofs.YtfhkhnoiolkkdaaGreatDoor
