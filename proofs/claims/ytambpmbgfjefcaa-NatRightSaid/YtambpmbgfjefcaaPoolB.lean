/- The contract of pool.marked. -/
import Derived.Test.YtambpmbgfjefcaaPoolA
import Derived.Test.YtambpmbgfjefcaaMix2
set_option linter.unusedVariables false
set_option maxRecDepth 100000
set_option linter.unusedSimpArgs false
namespace Go.Proofs.Ytambpmbgfjefcaa
open Go.RowKit
def wordRow (W : Nat → Nat) : Array Value := ((List.range 1024).map fun i => Value.int .u64 (W i : Int)).toArray
theorem zero_marks (w : World) : (zeroValue 75).run Try.prog w = .ok (.agg (wordRow fun _ => 0)) w := by kernel_rfl
@[simp, go_sem] theorem wordRow_size (W : Nat → Nat) : (wordRow W).size = 1024 := by simp [wordRow]
def updW (W : Nat → Nat) (i v : Nat) : Nat → Nat := fun k => if k = i then v else W k
@[go_sem] theorem wordRow_set (W : Nat → Nat) (i v : Nat) : (wordRow W).setIfInBounds i (.int .u64 (v : Int)) = wordRow (updW W i v) := by
  unfold wordRow updW
  apply Array.ext_getElem?
  intro j
  simp only [Array.getElem?_setIfInBounds, List.getElem?_toArray, List.getElem?_map]
  by_cases h : i = j
  · subst h
    by_cases h2 : i < 1024
    · simp [h2]
    · simp [h2]; try omega
  · have h3 : ¬ j = i := fun e => h e.symm
    by_cases h2 : j < 1024
    · simp [h, h2, h3]
    · simp [h, h2]
theorem wordRow_cell (w : World) (W : Nat → Nat) (t : TypeId) (os : Array Obj) (d i : Nat) (hi : i < 1024) : ((w.alloc (.cells (wordRow W) t)).junk os d).cell? ⟨w.heap.size, i, none⟩ = some (.int .u64 (W i : Int)) := by
  rw [World.cell?_junk _ _ _ _ _ (by simp), World.cell?_alloc_new]
  simp [wordRow, hi]
theorem junk_nil2 (w : World) : w = w.junk #[] w.drawn := by simp [World.junk]
/-- What is marked: the ports of the span that are taken. -/
def takenB (lo hi : Int) (xs : Nat → Int) (l p : Nat) : Bool := decide (lo ≤ p ∧ (p : Int) ≤ hi ∧ ∃ i, i < l ∧ xs i = (p : Int))
theorem or_word (x q : Nat) (hx : x < 18446744073709551616) (hq : q < 64) : bits .or .u64 (x : Int) (IntKind.u64.wrap (2 ^ q)) = ((x ||| 2 ^ q : Nat) : Int) := by
  have h2 : (2 : Nat) ^ q < 2 ^ 64 := Nat.pow_lt_pow_right (by decide) hq
  have h64 : (2 : Nat) ^ 64 = 18446744073709551616 := by decide
  have e : ((2 : Int) ^ q) = ((2 ^ q : Nat) : Int) := by simp
  rw [e]
  generalize (2 : Nat) ^ q = y at *
  rw [wrapk_u64 _ (by omega) (by omega), (bits_nat .u64 64 (by decide) wrapk_u64 x _ (by omega) (by omega)).2]
theorem markB_upd (W : Nat → Nat) (p p' : Nat) : markB (updW W (p / 64) (W (p / 64) ||| 2 ^ (p % 64))) p' = (markB W p' || p' == p) := by
  unfold markB updW
  by_cases h : p' / 64 = p / 64
  · rw [if_pos h, h, Nat.testBit_or, Nat.testBit_two_pow]
    congr 1
    rw [Bool.eq_iff_iff]
    simp
    omega
  · rw [if_neg h]
    have : (p' == p) = false := by simp; rintro rfl; exact h rfl
    rw [this, Bool.or_false]
theorem takenB_succ (lo hi : Int) (xs : Nat → Int) (k p : Nat) : takenB lo hi xs (k + 1) p = (takenB lo hi xs k p || decide (lo ≤ p ∧ (p : Int) ≤ hi ∧ xs k = p)) := by
  unfold takenB
  rw [Bool.eq_iff_iff]
  simp only [decide_eq_true_eq, Bool.or_eq_true]
  constructor
  · rintro ⟨h1, h2, i, hi, hx⟩
    by_cases h : i = k
    · subst h; exact .inr ⟨h1, h2, hx⟩
    · exact .inl ⟨h1, h2, i, by omega, hx⟩
  · rintro (⟨h1, h2, i, hi, hx⟩ | ⟨h1, h2, hx⟩)
    · exact ⟨h1, h2, i, by omega, hx⟩
    · exact ⟨h1, h2, k, by omega, hx⟩
set_option maxHeartbeats 1000000 in
theorem marked_any (lo hi : Int) (oa : Option Addr) (l c : Nat) (xs : Nat → Int) (w : World) (hl : l ≤ 100000000) (h1 : 1 ≤ lo) (h2 : hi ≤ 65535) (hS : IntsAt w oa l .i64 xs) :
    Calls Try.prog 30 #[.int .i64 lo, .int .i64 hi, .slice oa l c] w fun e w' => ∃ g, e = .returned (.pointer (some ⟨g, 0, none⟩)) ∧ Junk w w' ∧ ∃ W, Marks w' g W ∧ ∀ p, p < 65536 → markB W p = takenB lo hi xs l p := by
  have hz := zero_marks
  generalize hZ : wordRow (fun _ => 0) = Z at hz
  go_enter Try.func30, Try.ntmps30
  go_wp2
  go_loopw [14] (fun i wr => ∃ (k : Nat) (W : Nat → Nat) (os : Array Obj) (d : Nat), i = .int .i64 (k : Int) ∧ wr = (w.alloc (.cells (wordRow W) 75)).junk os d ∧ (∀ i, W i < 18446744073709551616) ∧ (∀ p, p < 65536 → markB W p = takenB lo hi xs k p) ∧ k ≤ l) (fun i _ => l + 1 - (intOf i).toNat)
  case atStart => exact ⟨0, fun _ => 0, #[], _, rfl, by rw [hZ]; exact junk_nil2 _, fun _ => (by show (0 : Nat) < _; decide), fun p _ => by simp [markB, takenB], by omega⟩
  case round =>
    obtain ⟨k, W, os, d, rfl, rfl, hw, hm, hk⟩ := hrel
    by_cases hlt : k < l
    · obtain ⟨b, off, rfl, hblk, hc⟩ := hS k hlt
      have j1 : (k : Int) < (l : Int) := by omega
      obtain ⟨x, hx⟩ : ∃ x, x = xs k := ⟨_, rfl⟩
      rw [← hx] at hc
      by_cases hin : lo ≤ x ∧ x ≤ hi
      · obtain ⟨i1, i2⟩ := hin
        obtain ⟨p, rfl⟩ : ∃ p : Nat, x = (p : Int) := ⟨x.toNat, by omega⟩
        obtain ⟨i, hi⟩ : ∃ i, i = p / 64 := ⟨_, rfl⟩
        obtain ⟨q, hq⟩ : ∃ q, q = p % 64 := ⟨_, rfl⟩
        have e1 : (p : Int) / 64 = (i : Int) := by omega
        have e2 : (p : Int) % 64 = (q : Int) := by omega
        have e3 : (q : Int) < 64 := by omega
        have e4 : (i : Int) < 1024 := by omega
        have e5 : i < 1024 := by omega
        have hcl := fun os d => wordRow_cell w W 75 os d i e5
        have hsz := wordRow_size W
        have HW := Lib.hid hw
        have HM := Lib.hid hm
        have HX := Lib.hid hx
        have HI := Lib.hid hi
        have HQ := Lib.hid hq
        clear hw hm hx hS hi hq
        go_wp2
        refine wp_region_mixl ((w.alloc (.cells (wordRow W) 75)).junk os d) 12 [(0, true), (1, true), (2, true), (3, true), (4, true), (5, true), (6, true), (7, true), (8, true), (9, true), (10, true), (11, true), (12, false)] (by kernel_rfl) (by kernel_rfl) (by (repeat (first | with_reducible exact Junk.refl _ | with_reducible exact Junk.app _ _ _ _ _ | with_reducible apply Junk.alloc | with_reducible apply Junk.junk | with_reducible apply Junk.drew | with_reducible apply Junk.drewN))) ?_; (iterate 12 (refine wpMixL_q rfl (fun K hK => ?_); (go_simp; try go_bits); (refine hK _ ?_; clear hK K))); refine wpMixL_last rfl (fun osm6_0 dm6_0 K hK => ?_); (go_simp; try go_bits); refine hK _ _ ?_; clear hK K; refine wpMixL_nil (fun osm dm => ?_)
        go_wp2
        have hb : W i ||| 2 ^ q < 18446744073709551616 := by
          have h3 : (2 : Nat) ^ q < 2 ^ 64 := Nat.pow_lt_pow_right (by decide) (by omega)
          have h4 := Nat.or_lt_two_pow (x := W i) (y := 2 ^ q) (n := 64) (by have := HW.out i; omega) h3
          omega
        refine ⟨⟨k + 1, updW W i (W i ||| 2 ^ q), _, _, by go_num, by rw [or_word _ _ (HW.out i) (by omega), wordRow_set], fun j => ?_, fun p' hp' => ?_, by omega⟩, by simp [intOf]; omega⟩
        · unfold updW; split
          · exact hb
          · exact HW.out j
        · rw [takenB_succ, ← HM.out p' hp', ← HX.out, HI.out, HQ.out, markB_upd]
          congr 1
          rw [Bool.eq_iff_iff]
          simp
          omega
      · have HW := Lib.hid hw
        have HM := Lib.hid hm
        have HX := Lib.hid hx
        have hnot : ∀ p' : Nat, decide (lo ≤ p' ∧ (p' : Int) ≤ hi ∧ xs k = p') = false := fun p' => by rw [← hx]; simp; intro a b c; omega
        have HN := Lib.hid hnot
        by_cases i1 : lo ≤ x
        · have i2 : ¬ x ≤ hi := fun h => hin ⟨i1, h⟩
          clear hw hm hx hS hnot hin
          go_wp2
          exact ⟨⟨k + 1, W, _, _, by go_num, rfl, HW.out, fun p' hp' => by rw [takenB_succ, HN.out p', Bool.or_false]; exact HM.out p' hp', by omega⟩, by simp [intOf]; omega⟩
        · clear hw hm hx hS hnot hin
          go_wp2
          exact ⟨⟨k + 1, W, _, _, by go_num, rfl, HW.out, fun p' hp' => by rw [takenB_succ, HN.out p', Bool.or_false]; exact HM.out p' hp', by omega⟩, by simp [intOf]; omega⟩
    · have j1 : ¬ (k : Int) < (l : Int) := by omega
      obtain rfl : k = l := by omega
      have HW := Lib.hid hw
      have HM := Lib.hid hm
      clear hw hm hS
      go_wp2
      go_ret
      exact ⟨_, rfl, by (repeat (first | with_reducible exact Junk.refl _ | with_reducible exact Junk.app _ _ _ _ _ | with_reducible apply Junk.alloc | with_reducible apply Junk.junk | with_reducible apply Junk.drew | with_reducible apply Junk.drewN)), W, ⟨by simp; omega, fun i hi => wordRow_cell w W _ os d i hi, HW.out⟩, HM.out⟩
end Go.Proofs.Ytambpmbgfjefcaa
