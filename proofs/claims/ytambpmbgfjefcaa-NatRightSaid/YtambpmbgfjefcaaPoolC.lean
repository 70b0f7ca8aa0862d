/- The contracts of pool.Free and pool.Choose. -/
import Derived.Test.YtambpmbgfjefcaaPoolB
set_option linter.unusedVariables false
set_option maxRecDepth 100000
set_option linter.unusedSimpArgs false
namespace Go.Proofs.Ytambpmbgfjefcaa
open Go.RowKit
theorem portsL_congr {F G : Nat → Bool} {step hi : Nat} (h : ∀ p, p ≤ hi → F p = G p) : ∀ n p, portsL F step hi n p = portsL G step hi n p
  | 0, _ => rfl
  | n + 1, p => by
    rw [portsL, portsL, portsL_congr h n (p + step)]
    by_cases hp : p ≤ hi
    · rw [if_pos hp, if_pos hp, h p hp]
    · rw [if_neg hp, if_neg hp]
theorem freeL_congr {F G : Nat → Bool} {step hi : Nat} (h : ∀ p, p ≤ hi → F p = G p) (p : Nat) : freeL F step hi p = freeL G step hi p := portsL_congr h _ _
/-- The free ports of a span, from one on, each so many further. -/
def poolL (lo hi : Int) (xs : Nat → Int) (l step from_ : Nat) : List Nat := freeL (takenB lo hi xs l) step hi.toNat from_
def poolFree (lo hi : Int) (xs : Nat → Int) (l : Nat) : Nat := if rightB lo hi then (poolL lo hi xs l 1 lo.toNat).length else 0
set_option maxHeartbeats 1000000 in
theorem poolFree_any (lo hi : Int) (oa : Option Addr) (l c : Nat) (xs : Nat → Int) (w : World) (hl : l ≤ 100000000) (hS : IntsAt w oa l .i64 xs) :
    Calls Try.prog 16 #[.int .i64 lo, .int .i64 hi, .slice oa l c] w fun e w' => e = .returned (.int .i64 (poolFree lo hi xs l : Int)) ∧ Junk w w' := by
  cases hr : rightB lo hi with
  | false =>
    go_enter Try.func16, Try.ntmps16
    go_wp2_with (first | (go_at_call 14; refine (right_any _ _ _).mono ?_; rintro e w' ⟨rfl, rfl⟩))
    go_ret
    exact ⟨ret_int (by simp [poolFree, hr]), by (repeat (first | with_reducible exact Junk.refl _ | with_reducible exact Junk.app _ _ _ _ _ | with_reducible apply Junk.alloc | with_reducible apply Junk.junk | with_reducible apply Junk.drew | with_reducible apply Junk.drewN))⟩
  | true =>
    have hr2 : 1 ≤ lo ∧ lo ≤ hi ∧ hi ≤ 65535 := by simpa [rightB] using hr
    obtain ⟨r1, r2, r3⟩ := hr2
    obtain ⟨a, rfl⟩ : ∃ a : Nat, lo = (a : Int) := ⟨lo.toNat, by omega⟩
    obtain ⟨b, rfl⟩ : ∃ b : Nat, hi = (b : Int) := ⟨hi.toNat, by omega⟩
    obtain ⟨N, hN⟩ : ∃ N, N = poolFree a b xs l := ⟨_, rfl⟩
    have hN2 : N = (freeL (takenB a b xs l) 1 b a).length := by rw [hN]; unfold poolFree poolL; rw [if_pos hr]; simp
    rw [← hN]
    have HN := Lib.hid hN2
    have HS := Lib.hid hS
    clear hN hN2 hS
    go_enter Try.func16, Try.ntmps16
    go_wp2_with (first | (go_at_call 14; refine (right_any _ _ _).mono ?_; rintro e w' ⟨rfl, rfl⟩) | (go_at_call 30; refine (marked_any (a : Int) (b : Int) oa l c xs _ hl r1 r3 (HS.out.on (by (repeat (first | with_reducible exact Junk.refl _ | with_reducible exact Junk.app _ _ _ _ _ | with_reducible apply Junk.alloc | with_reducible apply Junk.junk | with_reducible apply Junk.drew | with_reducible apply Junk.drewN))))).mono ?_; rintro e w' ⟨g, rfl, ⟨osj, dj, rfl⟩, W, hM, hmk⟩; have HM := Lib.hid hM; have HK := Lib.hid hmk; clear hM hmk) | (go_at_call 32; refine (count_any g W a b 1 _ HM.out (by decide) (by decide) (by omega) (by omega)).mono ?_; rintro e w' ⟨rfl, rfl⟩; rw [freeL_congr (fun p hp => HK.out p (by omega)), ← HN.out]))
    go_ret
    exact ⟨rfl, by (repeat (first | with_reducible exact Junk.refl _ | with_reducible exact Junk.app _ _ _ _ _ | with_reducible apply Junk.alloc | with_reducible apply Junk.junk | with_reducible apply Junk.drew | with_reducible apply Junk.drewN))⟩
end Go.Proofs.Ytambpmbgfjefcaa
