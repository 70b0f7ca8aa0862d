/- The contracts of the reference of layer 2: its sum is the program's. -/
import Derived.Test.YtfkhnhenemgcmaaDoorCsum
import Derived.Test.YtfkhnhenemgcmaaDoorOwn
set_option linter.unusedVariables false
set_option maxRecDepth 100000
set_option linter.unusedSimpArgs false
namespace Go.Proofs.YtfkhnhenemgcmaaDoor
open Go.RowKit
def joinI (a b : Int) : Int := if 65535 < a + b then a + b - 65535 else a + b
set_option maxHeartbeats 400000 in
theorem join_any (a b : Int) (w : World) (ha : 0 ≤ a ∧ a ≤ 65535) (hb : 0 ≤ b ∧ b ≤ 65535) :
    Calls Tryd.prog 72 #[.int .u16 a, .int .u16 b] w fun e w' => e = .returned (.int .u16 (joinI a b)) ∧ w = w' := by
  by_cases h : 65535 < a + b
  · go_enter Tryd.func72, Tryd.ntmps72
    go_wp2
    go_ret
    exact ⟨ret_int (by rw [joinI, if_pos h]), rfl⟩
  · go_enter Tryd.func72, Tryd.ntmps72
    go_wp2
    go_ret
    exact ⟨ret_int (by unfold joinI; split <;> omega), rfl⟩
theorem joinI_bd {a b : Int} (ha : 0 ≤ a ∧ a ≤ 65535) (hb : 0 ≤ b ∧ b ≤ 65535) : 0 ≤ joinI a b ∧ joinI a b ≤ 65535 := by unfold joinI; split <;> omega
theorem joinI_fold {n b : Int} (hn : 0 ≤ n) (hb : 0 ≤ b ∧ b ≤ 65535) : joinI (foldI n) b = foldI (n + b) := by
  unfold joinI foldI
  by_cases h0 : n = 0
  · subst h0
    simp only [if_true]
    by_cases h1 : b = 0
    · subst h1; rfl
    · rw [if_neg (by omega : ¬ (65535 < 0 + b)), if_neg (by omega : ¬ (0 + b = 0))]; omega
  · rw [if_neg h0, if_neg (by omega : ¬ (n + b = 0))]
    split <;> omega
/-- The word at a place. -/
def wordAt (xs : Nat → Int) (l : Nat) (j : Nat) : Int := xs (2 * j) * 256 + if 2 * j + 1 < l then xs (2 * j + 1) else 0
def wordsL (xs : Nat → Int) (l k : Nat) : List Value := (List.range k).map fun j => Value.int .u16 (wordAt xs l j)
theorem wordsL_succ (xs : Nat → Int) (l k : Nat) : wordsL xs l k ++ [Value.int .u16 (wordAt xs l k)] = wordsL xs l (k + 1) := by
  simp [wordsL, List.range_succ]
theorem words_end (W0 : World) (xs : Nat → Int) (l k : Nat) (t : TypeId) (oa : Option Addr) (cap : Nat) (w : World) (v : Int) (hv : v = wordAt xs l k)
    (h : Own W0.heap.size w t 1 oa cap (k + 1) (wordsL xs l k ++ [Value.int .u16 v])) : Own W0.heap.size w t 1 oa cap (k + 1) (wordsL xs l (k + 1)) := by
  subst hv; rw [wordsL_succ] at h; exact h
def WordsPost (w : World) (xs : Nat → Int) (l : Nat) (e : Ending) (w' : World) : Prop :=
  ∃ oa cap, e = .returned (.slice oa ((l + 1) / 2) cap) ∧ Junk w w' ∧ Own w.heap.size w' 71 1 oa cap ((l + 1) / 2) (wordsL xs l ((l + 1) / 2))
set_option maxHeartbeats 1000000 in
theorem words_any (oa : Option Addr) (l c : Nat) (xs : Nat → Int) (w : World) (hl : l ≤ 100000000) (hI : IntsAt w oa l .u8 xs) (hx : ∀ i, i < l → 0 ≤ xs i ∧ xs i ≤ 255) :
    Calls Tryd.prog 48 #[.slice oa l c] w (WordsPost w xs l) := by
  have Hx := Lib.hid hx
  clear hx
  go_enter Tryd.func48, Tryd.ntmps48
  go_wp2
  go_loopw [3, 4] (fun v i wr => ∃ (k j : Nat) (ob : Option Addr) (cap : Nat), i = .int .i64 j ∧ v = .slice ob k cap ∧ Junk w wr ∧ Own w.heap.size wr 71 1 ob cap k (wordsL xs l k) ∧ j ≤ 2 * k ∧ 2 * k ≤ j ∧ j ≤ l + 1) (fun _ i _ => l + 1 - (intOf i).toNat)
  case atStart => exact ⟨0, 0, none, 0, rfl, rfl, Junk.refl _, Own.nil _ _ _ _, by omega, by omega, by omega⟩
  case round =>
    obtain ⟨k, j, ob, cap, rfl, rfl, ⟨os, d, rfl⟩, hown, h1, h2, h3⟩ := hrel
    have Hown := Lib.hid hown
    clear hown
    by_cases hlt : j < l
    · have hxj := Hx.out j hlt
      have e2 : 2 * k = j := by omega
      by_cases hlt2 : j + 1 < l
      · have hxj2 := Hx.out (j + 1) hlt2
        obtain ⟨b, off, rfl, hblk, hc⟩ := hI j hlt
        obtain ⟨b', off', he, _, hc2⟩ := hI (j + 1) hlt2
        cases he
        clear hI
        have hw : xs j * 256 + xs (j + 1) = wordAt xs l k := by unfold wordAt; rw [e2, if_pos hlt2]
        have Hw := Lib.hid hw
        clear hw e2
        go_wp2_with (at_builtin; (refine ap_own (W0 := w) rfl _ _ 97 rfl 71 (.int .u16 0) 1 2 (by kernel_rfl) rfl (by decide) Tryd.underlying97 (by (repeat (first | with_reducible exact Junk.refl _ | with_reducible exact Junk.app _ _ _ _ _ | with_reducible apply Junk.alloc | with_reducible apply Junk.junk | with_reducible apply Junk.drew | with_reducible apply Junk.drewN))) ob cap k _ rfl (Hown.out.on (by (repeat (first | with_reducible exact Junk.refl _ | with_reducible exact Junk.app _ _ _ _ _ | with_reducible apply Junk.alloc | with_reducible apply Junk.junk | with_reducible apply Junk.drew | with_reducible apply Junk.drewN)))) _ 1 1 rfl [_] rfl (built_cells (by simp)) (by simp) (by simp [Value.oneCell']) (by simp only [maxLen]; omega) (by omega) ?_; clear Hown; intro ob' cap' os' d' hown' _; have Hown := Lib.hid hown'; clear hown'))
        exact ⟨⟨k + 1, j + 2, ob', cap', by go_num, rfl, by (repeat (first | with_reducible exact Junk.refl _ | with_reducible exact Junk.app _ _ _ _ _ | with_reducible apply Junk.alloc | with_reducible apply Junk.junk | with_reducible apply Junk.drew | with_reducible apply Junk.drewN)), words_end _ _ _ _ _ _ _ _ _ Hw.out Hown.out, by omega, by omega, by omega⟩, by simp [intOf]; omega⟩
      · obtain ⟨b, off, rfl, hblk, hc⟩ := hI j hlt
        clear hI
        have hw : xs j * 256 = wordAt xs l k := by unfold wordAt; rw [e2, if_neg hlt2]; omega
        have Hw := Lib.hid hw
        clear hw e2
        go_wp2_with (at_builtin; (refine ap_own (W0 := w) rfl _ _ 97 rfl 71 (.int .u16 0) 1 2 (by kernel_rfl) rfl (by decide) Tryd.underlying97 (by (repeat (first | with_reducible exact Junk.refl _ | with_reducible exact Junk.app _ _ _ _ _ | with_reducible apply Junk.alloc | with_reducible apply Junk.junk | with_reducible apply Junk.drew | with_reducible apply Junk.drewN))) ob cap k _ rfl (Hown.out.on (by (repeat (first | with_reducible exact Junk.refl _ | with_reducible exact Junk.app _ _ _ _ _ | with_reducible apply Junk.alloc | with_reducible apply Junk.junk | with_reducible apply Junk.drew | with_reducible apply Junk.drewN)))) _ 1 1 rfl [_] rfl (built_cells (by simp)) (by simp) (by simp [Value.oneCell']) (by simp only [maxLen]; omega) (by omega) ?_; clear Hown; intro ob' cap' os' d' hown' _; have Hown := Lib.hid hown'; clear hown'))
        exact ⟨⟨k + 1, j + 2, ob', cap', by go_num, rfl, by (repeat (first | with_reducible exact Junk.refl _ | with_reducible exact Junk.app _ _ _ _ _ | with_reducible apply Junk.alloc | with_reducible apply Junk.junk | with_reducible apply Junk.drew | with_reducible apply Junk.drewN)), words_end _ _ _ _ _ _ _ _ _ Hw.out Hown.out, by omega, by omega, by omega⟩, by simp [intOf]; omega⟩
    · obtain rfl : k = (l + 1) / 2 := by omega
      go_wp2
      go_ret
      exact ⟨_, _, rfl, by (repeat (first | with_reducible exact Junk.refl _ | with_reducible exact Junk.app _ _ _ _ _ | with_reducible apply Junk.alloc | with_reducible apply Junk.junk | with_reducible apply Junk.drew | with_reducible apply Junk.drewN)), Hown.out⟩

/-- The reference adds word by word. -/
theorem rawN_even (xs : Nat → Int) (l : Nat) : ∀ k, 2 * k ≤ l → rawN xs (2 * k) = ((List.range k).map (wordAt xs l)).sum
  | 0, _ => rfl
  | k + 1, h => by
    have h1 := rawN_even xs l k (by omega)
    rw [List.range_succ, List.map_append, List.sum_append, ← h1]
    have e : rawN xs (2 * (k + 1)) = rawN xs (2 * k) + xs (2 * k) * 256 + xs (2 * k + 1) := by
      show rawN xs (2 * k + 1 + 1) = _
      simp only [rawN]
      rw [if_pos (by omega), if_neg (by omega)]
    rw [e]
    simp [wordAt]
    rw [if_pos (by omega)]
    omega
def partSum (xs : Nat → Int) (l k : Nat) : Int := ((List.range k).map (wordAt xs l)).sum
theorem partSum_succ (xs : Nat → Int) (l k : Nat) : partSum xs l (k + 1) = partSum xs l k + wordAt xs l k := by
  unfold partSum; rw [List.range_succ, List.map_append, List.sum_append]; simp
theorem partSum_end (xs : Nat → Int) (l : Nat) : partSum xs l ((l + 1) / 2) = rawN xs l := by
  by_cases he : l % 2 = 0
  · have : (l + 1) / 2 = l / 2 := by omega
    rw [this]
    have h := rawN_even xs l (l / 2) (by omega)
    rw [show 2 * (l / 2) = l from by omega] at h
    exact h.symm
  · have : (l + 1) / 2 = l / 2 + 1 := by omega
    rw [this, partSum_succ]
    have h := rawN_even xs l (l / 2) (by omega)
    have e : rawN xs l = rawN xs (2 * (l / 2)) + xs (2 * (l / 2)) * 256 := by
      have : l = 2 * (l / 2) + 1 := by omega
      rw [this]
      simp only [rawN]
      rw [if_pos (by omega), show (2 * (l / 2) + 1) / 2 = l / 2 from by omega]
    rw [e, h]
    unfold partSum wordAt
    rw [if_neg (by omega : ¬ (2 * (l / 2) + 1 < l))]
    omega
theorem wordAt_bd (xs : Nat → Int) (l j : Nat) (hx : ∀ i, i < l → 0 ≤ xs i ∧ xs i ≤ 255) (hj : 2 * j < l) : 0 ≤ wordAt xs l j ∧ wordAt xs l j ≤ 65535 := by
  have h1 := hx _ hj
  unfold wordAt
  split
  · have := hx _ ‹_›; omega
  · omega
theorem partSum_bd (xs : Nat → Int) (l : Nat) (hx : ∀ i, i < l → 0 ≤ xs i ∧ xs i ≤ 255) : ∀ k, 2 * k ≤ l + 1 → 0 ≤ partSum xs l k
  | 0, _ => by simp [partSum]
  | k + 1, h => by
    have h1 := partSum_bd xs l hx k (by omega)
    have h2 := wordAt_bd xs l k hx (by omega)
    rw [partSum_succ]; omega
theorem wordsL_ints (xs : Nat → Int) (l k : Nat) : wordsL xs l k = ((List.range k).map (wordAt xs l)).map (Value.int .u16) := by simp [wordsL]
set_option maxHeartbeats 1000000 in
theorem rsum_any (oa : Option Addr) (l c : Nat) (xs : Nat → Int) (w : World) (hl : l ≤ 100000000) (hI : IntsAt w oa l .u8 xs) (hx : ∀ i, i < l → 0 ≤ xs i ∧ xs i ≤ 255) :
    Calls Tryd.prog 49 #[.slice oa l c] w fun e w' => e = .returned (.int .u16 (sumN xs l)) ∧ Junk w w' := by
  have Hx := Lib.hid hx
  clear hx
  go_enter Tryd.func49, Tryd.ntmps49
  go_wp2_with (go_at_call 48; refine (words_any oa l c xs _ hl hI Hx.out).mono ?_; rintro e w' ⟨ob, cap, rfl, ⟨os, d, rfl⟩, hown⟩; rw [wordsL_ints] at hown; have Hw := Lib.hid hown.ints; clear hown)
  go_loopw [3, 5] (fun v i wr => ∃ k : Nat, k ≤ (l + 1) / 2 ∧ i = .int .i64 k ∧ v = .int .u16 (foldI (partSum xs l k)) ∧ wr = w.junk os d) (fun _ i _ => (l + 1) / 2 - (intOf i).toNat)
  case atStart => exact ⟨0, Nat.zero_le _, rfl, rfl, rfl⟩
  case round =>
    obtain ⟨k, hk, rfl, rfl, rfl⟩ := hrel
    by_cases hlt : k < (l + 1) / 2
    · obtain ⟨b, off, rfl, hblk, hc⟩ := Hw.out k hlt
      have hwk := wordAt_bd xs l k Hx.out (by omega)
      have hps := partSum_bd xs l Hx.out k (by omega)
      have hps2 := foldI_bd _ hps
      have hc2 : (w.junk os d).cell? ⟨b, off + k, none⟩ = some (.int .u16 (wordAt xs l k)) := by
        rw [hc]; simp [List.getD, hlt]
      have e := joinI_fold (n := partSum xs l k) (b := wordAt xs l k) hps hwk
      rw [← partSum_succ] at e
      have He := Lib.hid e
      clear e hc hI
      generalize wordAt xs l k = x at *
      go_wp2_with (first | (go_at_call 72; refine (join_any _ _ _ hps2 hwk).mono ?_; rintro e w' ⟨rfl, rfl⟩))
      go_roundw
      case rel => exact ⟨k + 1, by omega, by go_num, by rw [He.out], by first | trivial | rfl⟩
      case measure => simp [intOf]; omega
    · obtain rfl : k = (l + 1) / 2 := by omega
      go_wp2
      go_ret
      exact ⟨ret_int (by rw [partSum_end]; rfl), by (repeat (first | with_reducible exact Junk.refl _ | with_reducible exact Junk.app _ _ _ _ _ | with_reducible apply Junk.alloc | with_reducible apply Junk.junk | with_reducible apply Junk.drew | with_reducible apply Junk.drewN))⟩
/-- Same: are two lists of bytes the same? -/
def sameN (xs ys : Nat → Int) (l m : Nat) : Bool := decide (l = m ∧ ∀ i, i < l → xs i = ys i)
end Go.Proofs.YtfkhnhenemgcmaaDoor
