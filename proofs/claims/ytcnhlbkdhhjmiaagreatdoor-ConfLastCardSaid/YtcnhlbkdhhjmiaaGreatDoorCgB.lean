/- conf.Same of equal configurations; what the law's package needs: Short, Num. -/
import Derived.Test.YtcnhlbkdhhjmiaaGreatDoorCgA
set_option linter.unusedVariables false
set_option maxRecDepth 100000
set_option linter.unusedSimpArgs false
namespace Go.Proofs.YtcnhlbkdhhjmiaaGreatDoor
open Go.RowKit
variable {L L' : Nat → Prop} {w w' w'' : World}
theorem enc_digit (d : Nat) (h : d < 10) : Utf8.encode ((48 : Int) + (d : Int)) = ⟨#[UInt8.ofNat (48 + d)]⟩ := by
  have : ∀ d : Nat, d < 10 → Utf8.encode ((48 : Int) + (d : Int)) = ⟨#[UInt8.ofNat (48 + d)]⟩ := by decide +kernel
  exact this d h
def digS (u : Nat) : ByteArray := ⟨(Lib.decDigits u).toArray⟩
theorem digS_small {u : Nat} (h : u < 10) : digS u = ⟨#[UInt8.ofNat (48 + u)]⟩ := by
  unfold digS; rw [Lib.decDigits, dif_pos h]
theorem digS_size {u : Nat} (h : u < 1000) : (digS u).size ≤ 3 := by
  show ((Lib.decDigits u).toArray).size ≤ 3
  rw [List.size_toArray]
  exact digits_len 2 u h
theorem digS_big {u : Nat} (h : ¬ u < 10) : digS u = digS (u / 10) ++ ⟨#[UInt8.ofNat (48 + u % 10)]⟩ := by
  unfold digS
  apply ByteArray.ext
  rw [Lib.decDigits, dif_neg h]
  simp [ByteArray.data_append]
set_option maxRecDepth 100000 in
set_option maxHeartbeats 2000000 in
theorem size15_any : ∀ (n u : Nat), u < n → u < 1000 → ∀ w, Calls Tryz.prog 49 #[.int .u64 u] w fun e w' => e = .returned (.string (digS u)) ∧ Junk w w'
  | 0, u, h, _, w => absurd h (by omega)
  | n + 1, u, h, hu, w => by
    by_cases hs : u < 10
    · have h1 : (u : Int) < 10 := by omega
      have hp := wrapk_u64 (48 + (u : Int)) (by omega) (by omega)
      go_enter Tryz.func49, Tryz.ntmps49
      go_wp2
      go_ret
      refine ⟨?_, by (exact jkc)⟩
      rw [digS_small hs, ← enc_digit u hs]
      rfl
    · have h1 : ¬ (u : Int) < 10 := by omega
      obtain ⟨q, hq⟩ : ∃ q, u / 10 = q := ⟨_, rfl⟩
      obtain ⟨r, hr⟩ : ∃ r, u % 10 = r := ⟨_, rfl⟩
      have hr10 : r < 10 := by omega
      have eq : (u : Int) / 10 = (q : Int) := by omega
      have er : (u : Int) % 10 = (r : Int) := by omega
      have HI := Lib.hid (fun w => size15_any n q (by omega) (by omega) w)
      obtain ⟨E, hE⟩ : ∃ E, Utf8.encode ((48 : Int) + (r : Int)) = E := ⟨_, rfl⟩
      have hE1 := (enc_digit r hr10).symm.trans hE
      have hz : ¬ 9223372036854775807 < (digS q).size + E.size := by
        have h1 := digS_size (show q < 1000 by omega)
        have h2 : E.size = 1 := by rw [← hE1]; rfl
        omega
      have HB := Lib.hid (digS_big hs)
      rw [hq, hr, hE1] at HB
      clear hE1
      have hp := wrapk_u64 (48 + (r : Int)) (by omega) (by omega)
      have hpq := wrapk_u64 (q : Int) (by omega) (by omega)
      have hpr := wrapk_u64 (r : Int) (by omega) (by omega)
      clear hu hs h hq hr
      go_enter Tryz.func49, Tryz.ntmps49
      go_wp2_with (first | (go_at_call 49; (with_reducible refine (HI.out _).mono ?_); rintro e w' ⟨rfl, ⟨osj, dj, rfl⟩⟩))
      go_ret
      refine ⟨?_, by (exact jkc)⟩
      rw [HB.out]
      rfl
theorem itoaS_dig (n : Nat) : itoaS (n : Int) = digS n := by
  unfold itoaS digS mkS
  rw [Lib.itoa, if_neg (by omega)]
  rfl
theorem num15_any (n : Nat) (h : n < 1000) (w : World) : Calls Tryz.prog 30 #[.int .i64 (n : Int)] w fun e w' => e = .returned (.string (itoaS (n : Int))) ∧ Junk w w' := by
  rw [itoaS_dig]
  have HS := Lib.hid (size15_any (n + 1) n (by omega) h w)
  have h1 : ¬ (n : Int) < 0 := by omega
  have hw := wrapk_u64 (n : Int) (by omega) (by omega)
  generalize digS n = D at *
  go_enter Tryz.func30, Tryz.ntmps30
  go_wp2_with (first | (go_at_call 49; (with_reducible refine (HS.out).mono ?_); rintro e w' ⟨rfl, ⟨osj, dj, rfl⟩⟩))
  go_ret
  exact ⟨rfl, by (exact jkc)⟩
theorem num_any15 (n : Nat) (h : n < 1000) (w : World) : Calls Tryz.prog 11 #[.int .i64 (n : Int)] w fun e w' => e = .returned (.string (itoaS (n : Int))) ∧ Junk w w' := by
  have HS := Lib.hid (num15_any n h w)
  generalize itoaS (n : Int) = D at *
  go_enter Tryz.func11, Tryz.ntmps11
  go_wp2_with (first | (go_at_call 30; (with_reducible refine (HS.out).mono ?_); rintro e w' ⟨rfl, ⟨osj, dj, rfl⟩⟩))
  go_ret
  exact ⟨rfl, by (exact jkc)⟩
theorem short_any (o0 : Option Addr) (n0 c0 : Nat) (o1 : Option Addr) (n1 c1 : Nat) (ou : Int) (pu : Nat) (lo hi : Int) (o6 : Option Addr) (n6 c6 : Nat) (tc ot bu : Int) (w : World) :
    Calls Tryz.prog 6 #[.agg #[.slice o0 n0 c0, .slice o1 n1 c1, .int .i64 ou, .int .u32 pu, .int .i64 lo, .int .i64 hi, .slice o6 n6 c6, .int .i64 tc, .int .i64 ot, .int .i64 bu]] w fun e w' => e = .returned (.bool (decide (n0 ≤ 80 ∧ n1 ≤ 80 ∧ n6 ≤ 50))) ∧ Junk w w' := by
  by_cases h0 : n0 ≤ 80
  case neg =>
    have e0 : ¬ (n0 : Int) ≤ 80 := by omega
    go_enter Tryz.func6, Tryz.ntmps6
    go_wp2
    go_ret
    exact ⟨ret_bool (by simp [h0]), by (exact jkc)⟩
  by_cases h1 : n1 ≤ 80
  case neg =>
    have e0 : (n0 : Int) ≤ 80 := by omega
    have e1 : ¬ (n1 : Int) ≤ 80 := by omega
    go_enter Tryz.func6, Tryz.ntmps6
    go_wp2
    go_ret
    exact ⟨ret_bool (by simp [h1]), by (exact jkc)⟩
  by_cases h2 : n6 ≤ 50
  case neg =>
    have e0 : (n0 : Int) ≤ 80 := by omega
    have e1 : (n1 : Int) ≤ 80 := by omega
    have e2 : ¬ (n6 : Int) ≤ 50 := by omega
    go_enter Tryz.func6, Tryz.ntmps6
    go_wp2
    go_ret
    exact ⟨ret_bool (by simp [h2]), by (exact jkc)⟩
  have e0 : (n0 : Int) ≤ 80 := by omega
  have e1 : (n1 : Int) ≤ 80 := by omega
  have e2 : (n6 : Int) ≤ 50 := by omega
  go_enter Tryz.func6, Tryz.ntmps6
  go_wp2
  go_ret
  exact ⟨ret_bool (by simp [h0, h1, h2]), by (exact jkc)⟩
set_option maxHeartbeats 2000000 in
/-- Two configurations with the same data are the same. -/
theorem same_any (X : List Ro) (Y : List Ru) (Z : List Fo) (o0 : Option Addr) (n0 c0 : Nat) (o1 : Option Addr) (n1 c1 : Nat) (ou : Int) (pu : Nat) (lo hi : Int) (o6 : Option Addr) (n6 c6 : Nat) (tc ot bu : Int) (p0 p1 p6 : Option Addr) (d0 d1 d6 : Nat) (w : World)
    (hX : X.length = n0) (hY : Y.length = n1) (hZ : Z.length = n6) (h : CfIn w ⟨X, Y, ou, pu, lo, hi, Z, tc, ot, bu⟩ o0 c0 o1 c1 o6 c6) (k : CfIn w ⟨X, Y, ou, pu, lo, hi, Z, tc, ot, bu⟩ p0 d0 p1 d1 p6 d6) :
    Calls Tryz.prog 9 #[.agg #[.slice o0 n0 c0, .slice o1 n1 c1, .int .i64 ou, .int .u32 pu, .int .i64 lo, .int .i64 hi, .slice o6 n6 c6, .int .i64 tc, .int .i64 ot, .int .i64 bu], .agg #[.slice p0 n0 d0, .slice p1 n1 d1, .int .i64 ou, .int .u32 pu, .int .i64 lo, .int .i64 hi, .slice p6 n6 d6, .int .i64 tc, .int .i64 ot, .int .i64 bu]] w fun e w' => e = .returned (.bool true) ∧ Junk w w' := by
  have hl0 : n0 ≤ 1000000 := by have := h.l0.1; simp only at this; omega
  have hl1 : n1 ≤ 1000000 := by have := h.l1.1; simp only at this; omega
  have hl6 : n6 ≤ 1000000 := by have := h.l6.1; simp only at this; omega
  have H0 := Lib.hid (fun w1 (hj : Junk w w1) => ro_equal o0 p0 n0 c0 n0 d0 X X w1 hl0 hl0 hX hX (h.s0.on hj) (k.s0.on hj))
  have H1 := Lib.hid (fun w1 (hj : Junk w w1) => ru_equal o1 p1 n1 c1 n1 d1 Y Y w1 hl1 hl1 hY hY (h.s1.on hj) (k.s1.on hj))
  have H6 := Lib.hid (fun w1 (hj : Junk w w1) => fo_equal o6 p6 n6 c6 n6 d6 Z Z w1 hl6 hl6 hZ hZ (h.s6.on hj) (k.s6.on hj))
  simp only [decide_true] at H0 H1 H6
  clear h k hX hY hZ
  go_enter Tryz.func9, Tryz.ntmps9
  go_wp2_with (first | (go_at_call 21; (with_reducible refine (H0.out _ (by (exact jkc))).mono ?_); rintro e w' ⟨rfl, ⟨osj, dj, rfl⟩⟩) | (go_at_call 22; (with_reducible refine (H1.out _ (by (exact jkc))).mono ?_); rintro e w' ⟨rfl, ⟨osj, dj, rfl⟩⟩) | (go_at_call 23; (with_reducible refine (H6.out _ (by (exact jkc))).mono ?_); rintro e w' ⟨rfl, ⟨osj, dj, rfl⟩⟩))
  go_ret
  exact ⟨rfl, by (exact jkc)⟩
end Go.Proofs.YtcnhlbkdhhjmiaaGreatDoor
