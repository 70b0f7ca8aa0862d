/- The contracts of pool.Right, and of the marks' readers. -/
import Derived.Test.YtambpmbgfjefcaaOwn
import Derived.Test.YtambpmbgfjefcaaBits
import Derived.Lib.Hide
set_option linter.unusedVariables false
set_option maxRecDepth 100000
set_option linter.unusedSimpArgs false
namespace Go.Proofs.Ytambpmbgfjefcaa
open Go.RowKit
def rightB (lo hi : Int) : Bool := decide (1 ≤ lo ∧ lo ≤ hi ∧ hi ≤ 65535)
theorem right_any (lo hi : Int) (w : World) : Calls Try.prog 14 #[.int .i64 lo, .int .i64 hi] w fun e w' => e = .returned (.bool (rightB lo hi)) ∧ w = w' := by
  by_cases h1 : 1 ≤ lo
  case neg =>
    go_enter Try.func14, Try.ntmps14
    go_wp2
    go_ret
    exact ⟨ret_bool (by simp [rightB]; omega), rfl⟩
  by_cases h2 : lo ≤ hi
  case neg =>
    go_enter Try.func14, Try.ntmps14
    go_wp2
    go_ret
    exact ⟨ret_bool (by simp [rightB]; omega), rfl⟩
  go_enter Try.func14, Try.ntmps14
  go_wp2
  go_ret
  exact ⟨ret_bool (by simp [rightB, h1, h2]), rfl⟩
theorem rright_any (lo hi : Int) (w : World) : Calls Try.prog 15 #[.int .i64 lo, .int .i64 hi] w fun e w' => e = .returned (.bool (rightB lo hi)) ∧ w = w' := by
  by_cases h1 : 0 < lo
  case neg =>
    go_enter Try.func15, Try.ntmps15
    go_wp2
    go_ret
    exact ⟨ret_bool (by simp [rightB]; omega), rfl⟩
  by_cases h2 : lo ≤ hi
  case neg =>
    go_enter Try.func15, Try.ntmps15
    go_wp2
    go_ret
    exact ⟨ret_bool (by simp [rightB]; omega), rfl⟩
  go_enter Try.func15, Try.ntmps15
  go_wp2
  go_ret
  exact ⟨ret_bool (by have h3 : 1 ≤ lo := by { omega }; simp [rightB, h2, h3]; try omega), rfl⟩
/-- The marks: which ports are marked. -/
structure Marks (w : World) (g : Nat) (W : Nat → Nat) : Prop where
  lt : g < w.heap.size
  cell : ∀ i, i < 1024 → w.cell? ⟨g, i, none⟩ = some (.int .u64 (W i : Int))
  word : ∀ i, W i < 18446744073709551616
def markB (W : Nat → Nat) (p : Nat) : Bool := (W (p / 64)).testBit (p % 64)
theorem mark_read (x k : Nat) (hx : x < 18446744073709551616) : (bits .and .u64 ((x : Int) / 2 ^ k) 1 == 0) = !x.testBit k := by
  have e : ((x : Int) / 2 ^ k) = ((x / 2 ^ k : Nat) : Int) := by simp
  have hlt : x / 2 ^ k ≤ x := Nat.div_le_self _ _
  rw [Nat.testBit_eq_decide_div_mod_eq, e]
  generalize x / 2 ^ k = y at hlt ⊢
  rw [and_u64_1 _ (by omega) (by omega)]
  rw [Bool.eq_iff_iff]
  simp
  omega
theorem free_any (g : Nat) (W : Nat → Nat) (p : Nat) (w : World) (hM : Marks w g W) (hp : p < 65536) :
    Calls Try.prog 31 #[.pointer (some ⟨g, 0, none⟩), .int .i64 (p : Int)] w fun e w' => e = .returned (.bool (!markB W p)) ∧ w = w' := by
  have hlt := hM.lt
  have hc := hM.cell (p / 64) (by omega)
  have hw := hM.word (p / 64)
  obtain ⟨i, hi⟩ : ∃ i, i = p / 64 := ⟨_, rfl⟩
  obtain ⟨k, hk⟩ : ∃ k, k = p % 64 := ⟨_, rfl⟩
  have e1 : (p : Int) / 64 = (i : Int) := by omega
  have e2 : (p : Int) % 64 = (k : Int) := by omega
  rw [← hi] at hc hw
  have hk9 : k < 64 := by omega
  have hi9 : i < 1024 := by omega
  have HI := Lib.hid hi
  have HK := Lib.hid hk
  have HM := Lib.hid hM
  clear hi hk hM
  have hi8 : (i : Int) < 1024 := by omega
  have hk8 : (k : Int) < 64 := by omega
  go_enter Try.func31, Try.ntmps31
  go_wp2
  go_ret
  exact ⟨ret_bool (by rw [mark_read _ _ hw]; unfold markB; rw [← HI.out, ← HK.out]), rfl⟩
/-- The free ports from one on, each so many further. -/
def portsL (F : Nat → Bool) (step hi : Nat) : Nat → Nat → List Nat
  | 0, _ => []
  | n + 1, p => if p ≤ hi then (if F p then portsL F step hi n (p + step) else p :: portsL F step hi n (p + step)) else []
theorem portsL_more (F : Nat → Bool) (step hi : Nat) (hs : 0 < step) : ∀ n p, hi + 1 ≤ n + p → portsL F step hi n p = portsL F step hi (n + 1) p
  | 0, p, h => by simp only [portsL]; rw [if_neg (by omega)]
  | n + 1, p, h => by
    rw [portsL, portsL]
    rw [portsL_more F step hi hs n (p + step) (by omega)]
def freeL (F : Nat → Bool) (step hi p : Nat) : List Nat := portsL F step hi (hi + 1) p
theorem freeL_step (F : Nat → Bool) (step hi p : Nat) (hs : 0 < step) : freeL F step hi p = if p ≤ hi then (if F p then freeL F step hi (p + step) else p :: freeL F step hi (p + step)) else [] := by
  unfold freeL
  rw [portsL_more F step hi hs (hi + 1) p (by omega), portsL]
theorem freeL_len (F : Nat → Bool) (step hi : Nat) : ∀ n p, (portsL F step hi n p).length ≤ n
  | 0, _ => by simp [portsL]
  | n + 1, p => by
    have := freeL_len F step hi n (p + step)
    rw [portsL]
    split
    · split
      · omega
      · simp; omega
    · simp
set_option maxHeartbeats 1000000 in
theorem count_any (g : Nat) (W : Nat → Nat) (from_ hi step : Nat) (w : World) (hM : Marks w g W) (hs : 0 < step) (hs2 : step ≤ 2) (hh : hi < 65536) (hf : from_ ≤ 65537) :
    Calls Try.prog 32 #[.pointer (some ⟨g, 0, none⟩), .int .i64 (from_ : Int), .int .i64 (hi : Int), .int .i64 (step : Int)] w fun e w' => e = .returned (.int .i64 ((freeL (markB W) step hi from_).length : Int)) ∧ w = w' := by
  have HM := Lib.hid hM
  clear hM
  go_enter Try.func32, Try.ntmps32
  go_wp2
  go_loopw [9, 10] (fun n i wr => ∃ m p : Nat, n = .int .i64 (m : Int) ∧ i = .int .i64 (p : Int) ∧ wr = w ∧ Hid (m + (freeL (markB W) step hi p).length = (freeL (markB W) step hi from_).length) ∧ m ≤ p ∧ p ≤ 65537) (fun _ i _ => 65538 - (intOf i).toNat)
  case atStart => exact ⟨0, from_, rfl, rfl, rfl, Lib.hid (by simp), by omega, by omega⟩
  case round =>
    obtain ⟨m, p, rfl, rfl, rfl, hl, hmp, hp⟩ := hrel
    by_cases hle : p ≤ hi
    · have hle2 : (p : Int) ≤ (hi : Int) := by omega
      cases hb : markB W p with
      | true =>
        have HL := Lib.hid (show m + (freeL (markB W) step hi (p + step)).length = (freeL (markB W) step hi from_).length by have := hl.out; rw [freeL_step _ _ _ _ hs, if_pos hle, if_pos hb] at this; exact this)
        clear hl
        go_wp2_with (first | (go_at_call 31; refine (free_any g W p _ HM.out (by omega)).mono ?_; rintro e w' ⟨rfl, rfl⟩))
        exact ⟨⟨m, p + step, rfl, by go_num, by first | rfl | trivial, HL, by omega, by omega⟩, by simp [intOf]; omega⟩
      | false =>
        have HL := Lib.hid (show (m + 1) + (freeL (markB W) step hi (p + step)).length = (freeL (markB W) step hi from_).length by have := hl.out; rw [freeL_step _ _ _ _ hs, if_pos hle, if_neg (by simp [hb])] at this; simp at this; omega)
        clear hl
        go_wp2_with (first | (go_at_call 31; refine (free_any g W p _ HM.out (by omega)).mono ?_; rintro e w' ⟨rfl, rfl⟩))
        exact ⟨⟨m + 1, p + step, by go_num, by go_num, by first | rfl | trivial, HL, by omega, by omega⟩, by simp [intOf]; omega⟩
    · have hle2 : ¬ (p : Int) ≤ (hi : Int) := by omega
      have hm : m = (freeL (markB W) step hi from_).length := by have := hl.out; rw [freeL_step _ _ _ _ hs, if_neg hle] at this; simpa using this
      have HL := Lib.hid hm
      clear hm hl
      go_wp2
      go_ret
      exact ⟨ret_int (by rw [HL.out]), rfl⟩
set_option maxHeartbeats 1000000 in
theorem pick_any (g : Nat) (W : Nat → Nat) (from_ hi step place : Nat) (w : World) (hM : Marks w g W) (hs : 0 < step) (hs2 : step ≤ 2) (hh : hi < 65536) (hf : from_ ≤ 65537) (hpl : place ≤ 4294967295) :
    Calls Try.prog 33 #[.pointer (some ⟨g, 0, none⟩), .int .i64 (from_ : Int), .int .i64 (hi : Int), .int .i64 (step : Int), .int .i64 (place : Int)] w fun e w' => e = .returned (.int .i64 (((freeL (markB W) step hi from_)[place]?.getD 0 : Nat) : Int)) ∧ w = w' := by
  have HM := Lib.hid hM
  clear hM
  go_enter Try.func33, Try.ntmps33
  go_wp2
  go_loopw [4, 11] (fun n i wr => ∃ m p : Nat, n = .int .i64 (m : Int) ∧ i = .int .i64 (p : Int) ∧ wr = w ∧ Hid ((freeL (markB W) step hi p)[m]?.getD 0 = (freeL (markB W) step hi from_)[place]?.getD 0) ∧ m ≤ place ∧ p ≤ 65537) (fun _ i _ => 65538 - (intOf i).toNat)
  case atStart => exact ⟨place, from_, rfl, rfl, rfl, Lib.hid rfl, by omega, by omega⟩
  case round =>
    obtain ⟨m, p, rfl, rfl, rfl, hl, hmp, hp⟩ := hrel
    by_cases hle : p ≤ hi
    · have hle2 : (p : Int) ≤ (hi : Int) := by omega
      cases hb : markB W p with
      | true =>
        have HL := Lib.hid (show (freeL (markB W) step hi (p + step))[m]?.getD 0 = (freeL (markB W) step hi from_)[place]?.getD 0 by have := hl.out; rw [freeL_step _ _ _ _ hs, if_pos hle, if_pos hb] at this; exact this)
        clear hl
        go_wp2_with (first | (go_at_call 31; refine (free_any g W p _ HM.out (by omega)).mono ?_; rintro e w' ⟨rfl, rfl⟩))
        exact ⟨⟨m, p + step, rfl, by go_num, by first | rfl | trivial, HL, by omega, by omega⟩, by simp [intOf]; omega⟩
      | false =>
        by_cases hm0 : m = 0
        · have hz : ((m : Int) == 0) = true := by simp [hm0]
          have HL := Lib.hid (show p = (freeL (markB W) step hi from_)[place]?.getD 0 by have := hl.out; rw [freeL_step _ _ _ _ hs, if_pos hle, if_neg (by simp [hb]), hm0] at this; simpa using this)
          clear hl hm0
          go_wp2_with (first | (go_at_call 31; refine (free_any g W p _ HM.out (by omega)).mono ?_; rintro e w' ⟨rfl, rfl⟩))
          go_ret
          exact ⟨ret_int (by rw [← HL.out]), rfl⟩
        · have hz : ((m : Int) == 0) = false := by simp; omega
          have HL := Lib.hid (show (freeL (markB W) step hi (p + step))[m - 1]?.getD 0 = (freeL (markB W) step hi from_)[place]?.getD 0 by
            have := hl.out
            rw [freeL_step _ _ _ _ hs, if_pos hle, if_neg (by simp [hb]), show m = (m - 1) + 1 by omega] at this
            simpa using this)
          clear hl
          go_wp2_with (first | (go_at_call 31; refine (free_any g W p _ HM.out (by omega)).mono ?_; rintro e w' ⟨rfl, rfl⟩))
          exact ⟨⟨m - 1, p + step, by go_num, by go_num, by first | rfl | trivial, HL, by omega, by omega⟩, by simp [intOf]; omega⟩
    · have hle2 : ¬ (p : Int) ≤ (hi : Int) := by omega
      have HL := Lib.hid (show (0 : Nat) = (freeL (markB W) step hi from_)[place]?.getD 0 by have := hl.out; rw [freeL_step _ _ _ _ hs, if_neg hle] at this; simpa using this)
      clear hl
      go_wp2
      go_ret
      exact ⟨ret_int (by rw [← HL.out]; rfl), rfl⟩
end Go.Proofs.Ytambpmbgfjefcaa
