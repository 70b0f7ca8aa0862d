/- The fixed answers of layer 16; short. -/
import Derived.Test.YtambpmbgfjefcaaPoolD
set_option linter.unusedVariables false
set_option maxRecDepth 100000
set_option linter.unusedSimpArgs false
namespace Go.Proofs.Ytambpmbgfjefcaa
open Go.RowKit
theorem lit12 {w : World} {t : TypeId} {n : Nat} (hn : n = w.heap.size) : IntsAt (w.alloc (.cells #[.int .i64 12] t)) (some ⟨n, 0, none⟩) 1 .i64 (fun _ => 12) := fun i hi => by
  subst hn
  obtain rfl : i = 0 := by omega
  exact ⟨w.heap.size, 0, rfl, by simp, by rw [World.cell?_alloc_new]; rfl⟩
theorem c1 : poolChoose 10 15 (fun _ => 12) 1 12 1 = (14, true) := by decide +kernel
theorem c2 : poolChoose 10 15 (fun _ => 12) 1 13 5 = (13, true) := by decide +kernel
theorem c3 : poolFree 10 15 (fun _ => 12) 1 = 5 := by decide +kernel
theorem choose12 (a : Addr) (w : World) (hS : IntsAt w (some a) 1 .i64 (fun _ => 12)) :
    Calls Try.prog 12 #[.int .i64 10, .int .i64 15, .slice (some a) 1 1, .int .i64 12, .int .u32 1] w fun e w' => e = .returned (.tuple #[.int .i64 14, .bool true]) ∧ Junk w w' := by
  have h := choose_any 10 15 (some a) 1 1 (fun _ => 12) 12 1 w (by decide) (by decide) hS
  rw [c1] at h
  exact h
theorem choose13 (a : Addr) (w : World) (hS : IntsAt w (some a) 1 .i64 (fun _ => 12)) :
    Calls Try.prog 12 #[.int .i64 10, .int .i64 15, .slice (some a) 1 1, .int .i64 13, .int .u32 5] w fun e w' => e = .returned (.tuple #[.int .i64 13, .bool true]) ∧ Junk w w' := by
  have h := choose_any 10 15 (some a) 1 1 (fun _ => 12) 13 5 w (by decide) (by decide) hS
  rw [c2] at h
  exact h
set_option maxHeartbeats 1000000 in
theorem awake16_any (w : World) : Calls Try.prog 10 #[] w fun e w' => e = .returned (.bool true) ∧ Junk w w' := by
  have r11 : rightB 1 1 = true := by decide
  go_enter Try.func10, Try.ntmps10
  go_wp2_with (first | (go_at_call 12; first | ((with_reducible refine (choose12 _ _ (lit12 (by simp))).mono ?_); rintro e w' ⟨rfl, ⟨osj1, dj1, rfl⟩⟩) | ((with_reducible refine (choose13 _ _ (lit12 (by simp))).mono ?_); rintro e w' ⟨rfl, ⟨osj2, dj2, rfl⟩⟩)) | (go_at_call 16; refine (poolFree_any 10 15 _ 1 1 (fun _ => 12) _ (by decide) (lit12 (by simp))).mono ?_; rintro e w' ⟨rfl, ⟨osj3, dj3, rfl⟩⟩; rw [c3]) | (go_at_call 14; refine (right_any _ _ _).mono ?_; rintro e w' ⟨rfl, rfl⟩))
  go_ret
  exact ⟨ret_bool rfl, by ((try simp only [World.junk_junk, Array.append_assoc]); (repeat (first | with_reducible exact Junk.refl _ | with_reducible exact Junk.app _ _ _ _ _ | with_reducible exact Junk.app2 _ _ _ _ _ _ | with_reducible exact Junk.app3 _ _ _ _ _ _ _ | with_reducible exact Junk.app4 _ _ _ _ _ _ _ _ | with_reducible exact Junk.app5 _ _ _ _ _ _ _ _ _ | with_reducible apply Junk.alloc | with_reducible apply Junk.junk | with_reducible apply Junk.drew | with_reducible apply Junk.drewN)))⟩
def short16 (lo hi : Int) (l : Nat) : Bool := decide (l ≤ 100) && (!rightB lo hi || decide (hi - lo ≤ 300))
theorem short16_any (lo hi : Int) (oa : Option Addr) (l c : Nat) (w : World) (hlo : -9223372036854775808 ≤ lo ∧ lo ≤ 9223372036854775807) (hhi : -9223372036854775808 ≤ hi ∧ hi ≤ 9223372036854775807) :
    Calls Try.prog 11 #[.int .i64 lo, .int .i64 hi, .slice oa l c] w fun e w' => e = .returned (.bool (short16 lo hi l)) ∧ w = w' := by
  by_cases h1 : l ≤ 100
  case neg =>
    go_enter Try.func11, Try.ntmps11
    go_wp2
    go_ret
    exact ⟨ret_bool (by simp [short16, h1]), rfl⟩
  cases hr : rightB lo hi with
  | false =>
    go_enter Try.func11, Try.ntmps11
    go_wp2_with (first | (go_at_call 15; refine (rright_any _ _ _).mono ?_; rintro e w' ⟨rfl, rfl⟩))
    go_ret
    exact ⟨ret_bool (by simp [short16, h1, hr]), rfl⟩
  | true =>
    have hr2 : 1 ≤ lo ∧ lo ≤ hi ∧ hi ≤ 65535 := by simpa [rightB] using hr
    obtain ⟨r1, r2, r3⟩ := hr2
    by_cases h3 : hi - lo ≤ 300
    · go_enter Try.func11, Try.ntmps11
      go_wp2_with (first | (go_at_call 15; refine (rright_any _ _ _).mono ?_; rintro e w' ⟨rfl, rfl⟩))
      go_ret
      exact ⟨ret_bool (by simp [short16, h1, hr, h3]), rfl⟩
    · go_enter Try.func11, Try.ntmps11
      go_wp2_with (first | (go_at_call 15; refine (rright_any _ _ _).mono ?_; rintro e w' ⟨rfl, rfl⟩))
      go_ret
      exact ⟨ret_bool (by simp [short16, h1, hr, h3]), rfl⟩
end Go.Proofs.Ytambpmbgfjefcaa
