/- The contracts of the small functions of icmp, and of its reference. -/
import Derived.Test.YtfkhnhenemgcmaaDoorBytesEq
set_option linter.unusedVariables false
set_option maxRecDepth 100000
set_option linter.unusedSimpArgs false
namespace Go.Proofs.YtfkhnhenemgcmaaDoor
open Go.RowKit
def byteful (n : Int) : Bool := decide (0 ≤ n ∧ n ≤ 255)
def asksB (t : Int) : Bool := decide (t = 8 ∨ t = 13)
def answersB (t : Int) : Bool := decide (t = 0 ∨ t = 14)
def errorB (t : Int) : Bool := decide (t = 3 ∨ t = 4 ∨ t = 11 ∨ t = 12)
theorem asks_any (t : Int) (x1 x2 x3 : Value) (w : World) : Calls Tryd.prog 67 #[.agg #[.int .i64 t, x1, x2, x3]] w fun e w' => e = .returned (.bool (asksB t)) ∧ Junk w w' := by
  by_cases h1 : t = 8
  · subst h1
    go_enter Tryd.func67, Tryd.ntmps67
    go_wp2
    go_ret
    exact ⟨ret_bool (by simp [asksB]), by (repeat (first | with_reducible exact Junk.refl _ | with_reducible exact Junk.app _ _ _ _ _ | with_reducible apply Junk.alloc | with_reducible apply Junk.junk | with_reducible apply Junk.drew | with_reducible apply Junk.drewN))⟩
  · have h2 : (t == 8) = false := by simp [h1]
    go_enter Tryd.func67, Tryd.ntmps67
    go_wp2
    go_ret
    exact ⟨ret_bool (by rw [Bool.eq_iff_iff]; simp [asksB, h1]), by (repeat (first | with_reducible exact Junk.refl _ | with_reducible exact Junk.app _ _ _ _ _ | with_reducible apply Junk.alloc | with_reducible apply Junk.junk | with_reducible apply Junk.drew | with_reducible apply Junk.drewN))⟩
theorem answers_any (t : Int) (x1 x2 x3 : Value) (w : World) : Calls Tryd.prog 68 #[.agg #[.int .i64 t, x1, x2, x3]] w fun e w' => e = .returned (.bool (answersB t)) ∧ Junk w w' := by
  by_cases h1 : t = 0
  · subst h1
    go_enter Tryd.func68, Tryd.ntmps68
    go_wp2
    go_ret
    exact ⟨ret_bool (by simp [answersB]), by (repeat (first | with_reducible exact Junk.refl _ | with_reducible exact Junk.app _ _ _ _ _ | with_reducible apply Junk.alloc | with_reducible apply Junk.junk | with_reducible apply Junk.drew | with_reducible apply Junk.drewN))⟩
  · have h2 : (t == 0) = false := by simp [h1]
    go_enter Tryd.func68, Tryd.ntmps68
    go_wp2
    go_ret
    exact ⟨ret_bool (by rw [Bool.eq_iff_iff]; simp [answersB, h1]), by (repeat (first | with_reducible exact Junk.refl _ | with_reducible exact Junk.app _ _ _ _ _ | with_reducible apply Junk.alloc | with_reducible apply Junk.junk | with_reducible apply Junk.drew | with_reducible apply Junk.drewN))⟩
/-- Where a number first stands; -1 if nowhere. -/
def hasI (xs : Nat → Int) (l : Nat) (v : Int) : Bool := decide (∃ i, i < l ∧ xs i = v)
def FoundI (w : World) (xs : Nat → Int) (l : Nat) (v : Int) (e : Ending) (w' : World) : Prop :=
  ∃ n : Int, e = .returned (.int .i64 n) ∧ w = w' ∧ ((0 ≤ n ∧ ∃ i, i < l ∧ xs i = v) ∨ (n = -1 ∧ ∀ i, i < l → xs i ≠ v))
set_option maxHeartbeats 400000 in
theorem index_any (oa : Option Addr) (l c : Nat) (xs : Nat → Int) (v : Int) (w : World) (hl : l ≤ 9223372036854775807) (hI : IntsAt w oa l .i64 xs) :
    Calls Tryd.prog 96 #[.slice oa l c, .int .i64 v] w (FoundI w xs l v) := by
  go_enter Tryd.func96, Tryd.ntmps96
  go_wp2
  go_loop [8] (fun i => ∃ k : Nat, k ≤ l ∧ i = .int .i64 k ∧ ∀ j, j < k → xs j ≠ v) (fun i => l - (intOf i).toNat)
  case atStart => exact ⟨0, Nat.zero_le _, rfl, fun j hj => by omega⟩
  case round =>
    obtain ⟨k, hk, rfl, hall⟩ := hrel
    have Hall := Lib.hid hall
    clear hall
    by_cases hlt : k < l
    · obtain ⟨b, off, rfl, hblk, hc⟩ := hI k hlt
      clear hI
      by_cases hxy : xs k = v
      · have hxy2 : (v == xs k) = true := by simp [hxy]
        go_wp2
        go_ret
        exact ⟨_, rfl, rfl, .inl ⟨by omega, k, hlt, hxy⟩⟩
      · have hxy2 : (v == xs k) = false := by simp; omega
        have Hxy := Lib.hid hxy
        clear hxy
        go_wp2
        go_round
        case rel => exact ⟨k + 1, by omega, by go_num, fun j hj => by
          by_cases hjk : j = k
          · rw [hjk]; exact Hxy.out
          · exact Hall.out j (by omega)⟩
        case measure => simp [intOf]; omega
    · obtain rfl : k = l := by omega
      go_wp2
      go_ret
      exact ⟨_, rfl, rfl, .inr ⟨rfl, Hall.out⟩⟩
set_option maxHeartbeats 400000 in
theorem contains_any (oa : Option Addr) (l c : Nat) (xs : Nat → Int) (v : Int) (w : World) (hl : l ≤ 9223372036854775807) (hI : IntsAt w oa l .i64 xs) :
    Calls Tryd.prog 91 #[.slice oa l c, .int .i64 v] w fun e w' => e = .returned (.bool (hasI xs l v)) ∧ w = w' := by
  go_enter Tryd.func91, Tryd.ntmps91
  go_wp2_with (go_at_call 96; refine (index_any oa l c xs v _ hl hI).mono ?_; rintro e w' ⟨n, rfl, rfl, hn⟩; have Hn := Lib.hid hn; clear hn)
  go_ret
  refine ⟨ret_bool ?_, rfl⟩
  rcases Hn.out with ⟨h1, h2⟩ | ⟨h1, h2⟩
  · simp [hasI, h1, h2]
  · subst h1
    simp [hasI]
    exact h2
theorem ints_lit (w : World) (vs : List Value) (ns : List Int) (e : TypeId) (h : vs = ns.map (Value.int .i64)) : IntsAt (w.alloc (.cells vs.toArray e)) (some ⟨w.heap.size, 0, none⟩) ns.length .i64 (fun i => ns.getD i 0) := by
  intro i hi
  refine ⟨w.heap.size, 0, rfl, by rw [World.size_alloc]; omega, ?_⟩
  rw [Nat.zero_add, World.cell?_alloc_new, h]
  simp [List.getD, hi]
def nameI (t r : Int) : Int := if asksB t || answersB t then r / 65536 else 0
set_option maxHeartbeats 400000 in
theorem name_any (t r : Int) (x1 x3 : Value) (w : World) (hr : 0 ≤ r ∧ r ≤ 4294967295) : Calls Tryd.prog 69 #[.agg #[.int .i64 t, x1, .int .u32 r, x3]] w fun e w' => e = .returned (.int .i64 (nameI t r)) ∧ Junk w w' := by
  cases h1 : asksB t with
  | true =>
    go_enter Tryd.func69, Tryd.ntmps69
    go_wp2_with (first | (go_at_call 67; refine (asks_any _ _ _ _ _).mono ?_; rintro e w' ⟨rfl, ⟨osj, dj, rfl⟩⟩) | (go_at_call 68; refine (answers_any _ _ _ _ _).mono ?_; rintro e w' ⟨rfl, ⟨osj, dj, rfl⟩⟩))
    go_ret
    exact ⟨ret_int (by simp [nameI, h1]), by (repeat (first | with_reducible exact Junk.refl _ | with_reducible exact Junk.app _ _ _ _ _ | with_reducible apply Junk.alloc | with_reducible apply Junk.junk | with_reducible apply Junk.drew | with_reducible apply Junk.drewN))⟩
  | false =>
    cases h2 : answersB t with
    | true =>
      go_enter Tryd.func69, Tryd.ntmps69
      go_wp2_with (first | (go_at_call 67; refine (asks_any _ _ _ _ _).mono ?_; rintro e w' ⟨rfl, ⟨osj, dj, rfl⟩⟩) | (go_at_call 68; refine (answers_any _ _ _ _ _).mono ?_; rintro e w' ⟨rfl, ⟨osj, dj, rfl⟩⟩))
      go_ret
      exact ⟨ret_int (by simp [nameI, h1, h2]), by (repeat (first | with_reducible exact Junk.refl _ | with_reducible exact Junk.app _ _ _ _ _ | with_reducible apply Junk.alloc | with_reducible apply Junk.junk | with_reducible apply Junk.drew | with_reducible apply Junk.drewN))⟩
    | false =>
      go_enter Tryd.func69, Tryd.ntmps69
      go_wp2_with (first | (go_at_call 67; refine (asks_any _ _ _ _ _).mono ?_; rintro e w' ⟨rfl, ⟨osj, dj, rfl⟩⟩) | (go_at_call 68; refine (answers_any _ _ _ _ _).mono ?_; rintro e w' ⟨rfl, ⟨osj, dj, rfl⟩⟩))
      go_ret
      exact ⟨ret_int (by simp [nameI, h1, h2]), by (repeat (first | with_reducible exact Junk.refl _ | with_reducible exact Junk.app _ _ _ _ _ | with_reducible apply Junk.alloc | with_reducible apply Junk.junk | with_reducible apply Junk.drew | with_reducible apply Junk.drewN))⟩
def msame (t c r t' c' r' : Int) (xs ys : Nat → Int) (l m : Nat) : Bool := (t == t') && (c == c') && (r == r') && sameN xs ys l m
end Go.Proofs.YtfkhnhenemgcmaaDoor
