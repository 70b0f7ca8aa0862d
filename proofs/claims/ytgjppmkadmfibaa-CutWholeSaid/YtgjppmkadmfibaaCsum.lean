/- The contracts of package csum. -/
import Derived.Test.YtgjppmkadmfibaaLift
import Derived.Test.YtgjppmkadmfibaaMix
import Derived.Test.YtgjppmkadmfibaaBits
import Derived.Lib.Hide
set_option linter.unusedVariables false
set_option maxRecDepth 100000
set_option linter.unusedSimpArgs false
namespace Go.Proofs.Ytgjppmkadmfibaa
open Go.RowKit
/-- What is left of a sum when all above 16 bits is folded in. -/
def foldI (n : Int) : Int := if n = 0 then 0 else (n - 1) % 65535 + 1
theorem foldI_step {m : Int} (h : 0 ≤ m) : foldI (m % 65536 + m / 65536) = foldI m := by
  unfold foldI
  by_cases h0 : m = 0
  · subst h0; rfl
  · rw [if_neg h0, if_neg (by omega)]; omega
theorem foldI_small {m : Int} (h : 0 ≤ m) (h2 : m < 65536) : foldI m = m := by
  unfold foldI; split <;> omega
theorem foldI_bd (n : Int) (h : 0 ≤ n) : 0 ≤ foldI n ∧ foldI n ≤ 65535 := by unfold foldI; split <;> omega
set_option maxHeartbeats 400000 in
theorem fold_any (n : Int) (w : World) (h0 : 0 ≤ n) (h1 : n ≤ 9223372036854775807) :
    Calls Try.prog 65 #[.int .u64 n] w fun e w' => e = .returned (.int .u16 (foldI n)) ∧ w = w' := by
  go_enter Try.func65, Try.ntmps65
  go_wp2
  go_loop [0] (fun v => ∃ m : Int, v = .int .u64 m ∧ 0 ≤ m ∧ m ≤ n ∧ foldI m = foldI n) (fun v => (intOf v).toNat)
  case atStart => exact ⟨n, rfl, h0, by omega, rfl⟩
  case round =>
    obtain ⟨m, rfl, h2, h3, h4⟩ := hrel
    have H4 := Lib.hid h4
    clear h4
    have hb := and_u64_16 m h2 (by omega)
    by_cases hs : m < 65536
    · go_wp2
      go_ret
      exact ⟨ret_int (by rw [← H4.out, foldI_small h2 hs]), rfl⟩
    · go_wp2
      exact ⟨⟨_, rfl, by omega, by omega, by rw [foldI_step h2]; exact H4.out⟩, by simp [intOf]; omega⟩
/-- The bytes' words, added. -/
def rawN (xs : Nat → Int) : Nat → Int
  | 0 => 0
  | k + 1 => rawN xs k + if k % 2 = 0 then xs k * 256 else xs k
theorem rawN_bd (xs : Nat → Int) : ∀ k, (∀ i, i < k → 0 ≤ xs i ∧ xs i ≤ 255) → 0 ≤ rawN xs k ∧ rawN xs k ≤ 65280 * k
  | 0, _ => by simp [rawN]
  | k + 1, h => by
    have h1 := rawN_bd xs k (fun i hi => h i (by omega))
    have h2 := h k (by omega)
    simp only [rawN]
    split <;> omega
def sumN (xs : Nat → Int) (n : Nat) : Int := foldI (rawN xs n)
theorem sumN_bd (xs : Nat → Int) (n : Nat) (h : ∀ i, i < n → 0 ≤ xs i ∧ xs i ≤ 255) : 0 ≤ sumN xs n ∧ sumN xs n ≤ 65535 := foldI_bd _ (rawN_bd xs n h).1
set_option maxHeartbeats 400000 in
theorem sum_any (oa : Option Addr) (l c : Nat) (xs : Nat → Int) (w : World) (hl : l ≤ 100000000) (hI : IntsAt w oa l .u8 xs) (hx : ∀ i, i < l → 0 ≤ xs i ∧ xs i ≤ 255) :
    Calls Try.prog 60 #[.slice oa l c] w fun e w' => e = .returned (.int .u16 (sumN xs l)) ∧ w = w' := by
  have Hx := Lib.hid hx
  have Hb := Lib.hid (rawN_bd xs)
  have hb0 := rawN_bd xs l hx
  clear hx
  go_enter Try.func60, Try.ntmps60
  go_wp2
  go_loop [3, 8] (fun v i => ∃ k : Nat, k ≤ l ∧ i = .int .i64 k ∧ v = .int .u64 (rawN xs k)) (fun _ i => l - (intOf i).toNat)
  case atStart => exact ⟨0, Nat.zero_le _, rfl, rfl⟩
  case round =>
    obtain ⟨k, hk, rfl, rfl⟩ := hrel
    have hb1 := Hb.out k (fun i hi => Hx.out i (by omega))
    by_cases hlt : k < l
    · obtain ⟨b, off, rfl, hblk, hc⟩ := hI k hlt
      have hxk := Hx.out k hlt
      have hs : rawN xs (k + 1) = rawN xs k + if k % 2 = 0 then xs k * 256 else xs k := rfl
      have Hs := Lib.hid hs
      clear hs hI
      by_cases he : k % 2 = 0
      · have he2 : ((k : Int) % 2 == 0) = true := by rw [beq_iff_eq]; omega
        go_wp2
        go_round
        case rel => exact ⟨k + 1, by omega, by go_num, by rw [Hs.out, if_pos he]⟩
        case measure => simp [intOf]; omega
      · have he2 : ((k : Int) % 2 == 0) = false := by rw [beq_eq_false_iff_ne]; omega
        go_wp2
        go_round
        case rel => exact ⟨k + 1, by omega, by go_num, by rw [Hs.out, if_neg he]⟩
        case measure => simp [intOf]; omega
    · obtain rfl : k = l := by omega
      go_wp2_with (first | (go_at_call 65; refine (fold_any _ _ (by omega) (by omega)).mono ?_; rintro e w' ⟨rfl, rfl⟩))
      go_ret
      exact ⟨rfl, rfl⟩
set_option maxHeartbeats 400000 in
theorem of_any (oa : Option Addr) (l c : Nat) (xs : Nat → Int) (w : World) (hl : l ≤ 100000000) (hI : IntsAt w oa l .u8 xs) (hx : ∀ i, i < l → 0 ≤ xs i ∧ xs i ≤ 255) :
    Calls Try.prog 48 #[.slice oa l c] w fun e w' => e = .returned (.int .u16 (65535 - sumN xs l)) ∧ w = w' := by
  have h1 := sumN_bd xs l hx
  have h2 := xor_u16 (sumN xs l) h1.1 (by omega)
  have Hx := Lib.hid hx
  clear hx
  go_enter Try.func48, Try.ntmps48
  go_wp2_with (first | (go_at_call 60; refine (sum_any _ _ _ _ _ hl hI Hx.out).mono ?_; rintro e w' ⟨rfl, rfl⟩))
  go_ret
  exact ⟨ret_int h2, rfl⟩
end Go.Proofs.Ytgjppmkadmfibaa
