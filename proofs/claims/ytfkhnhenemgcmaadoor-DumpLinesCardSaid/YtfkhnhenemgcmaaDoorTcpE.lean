/- The reference of layer 4: number, Right. -/
import Derived.Test.YtfkhnhenemgcmaaDoorTcpD
set_option linter.unusedVariables false
set_option maxRecDepth 100000
set_option linter.unusedSimpArgs false
namespace Go.Proofs.YtfkhnhenemgcmaaDoor
open Go.RowKit
def numI (xs : Nat → Int) : Nat → Int
  | 0 => 0
  | k + 1 => numI xs k * 256 + xs k
theorem numI_bd (xs : Nat → Int) : ∀ k, k ≤ 4 → (∀ i, i < k → 0 ≤ xs i ∧ xs i ≤ 255) → 0 ≤ numI xs k ∧ numI xs k ≤ 4294967295 ∧ (k ≤ 3 → numI xs k ≤ 16777215)
  | 0, _, _ => by simp [numI]
  | k + 1, hk, h => by
    obtain ⟨h1, h2, h3⟩ := numI_bd xs k (by omega) (fun i hi => h i (by omega))
    have h4 := h k (by omega)
    have h5 := h3 (by omega)
    simp only [numI]
    refine ⟨by omega, by omega, fun hk3 => ?_⟩
    rcases (show k = 0 ∨ k = 1 ∨ k = 2 by omega) with rfl | rfl | rfl
    · simp [numI] at *; omega
    · have := h 0 (by omega); simp [numI] at *; omega
    · have := h 0 (by omega); have := h 1 (by omega); simp [numI] at *; omega
theorem number_any (oa : Option Addr) (l c : Nat) (xs : Nat → Int) (w : World) (hl : l ≤ 4) (hI : IntsAt w oa l .u8 xs) (hx : ∀ i, i < l → 0 ≤ xs i ∧ xs i ≤ 255) :
    Calls Tryd.prog 53 #[.slice oa l c] w fun e w' => e = .returned (.int .i64 (numI xs l)) ∧ Junk w w' := by
  have HI := Lib.hid hI
  have HX := Lib.hid hx
  clear hI hx
  go_enter Tryd.func53, Tryd.ntmps53
  go_wp2
  go_loopw [3, 4] (fun v t wr => ∃ k : Nat, v = .int .i64 (numI xs k) ∧ t = .int .i64 (k : Int) ∧ Junk w wr ∧ k ≤ l) (fun _ t _ => l + 1 - (intOf t).toNat)
  case atStart => exact ⟨0, rfl, rfl, by ((try simp only [World.junk_junk, Array.append_assoc]); (repeat (first | with_reducible exact Junk.refl _ | with_reducible exact Junk.app _ _ _ _ _ | with_reducible exact Junk.app2 _ _ _ _ _ _ | with_reducible exact Junk.app3 _ _ _ _ _ _ _ | with_reducible exact Junk.app4 _ _ _ _ _ _ _ _ | with_reducible exact Junk.app5 _ _ _ _ _ _ _ _ _ | with_reducible apply Junk.alloc | with_reducible apply Junk.junk | with_reducible apply Junk.drew | with_reducible apply Junk.drewN))), by omega⟩
  case round =>
    obtain ⟨k, rfl, rfl, ⟨os, d, rfl⟩, hk⟩ := hrel
    by_cases hkl : k < l
    · have hk2 : (k : Int) < (l : Int) := by omega
      obtain ⟨b, off, rfl, hb, hc⟩ := HI.out k hkl
      have hxk := HX.out k hkl
      obtain ⟨n1, n2, n3⟩ := numI_bd xs k (by omega) (fun i hi => HX.out i (by omega))
      have n4 := n3 (by omega)
      have HS := Lib.hid (show numI xs (k + 1) = numI xs k * 256 + xs k from rfl)
      go_wp2
      exact ⟨⟨k + 1, by rw [HS.out], by go_num, by ((try simp only [World.junk_junk, Array.append_assoc]); (repeat (first | with_reducible exact Junk.refl _ | with_reducible exact Junk.app _ _ _ _ _ | with_reducible exact Junk.app2 _ _ _ _ _ _ | with_reducible exact Junk.app3 _ _ _ _ _ _ _ | with_reducible exact Junk.app4 _ _ _ _ _ _ _ _ | with_reducible exact Junk.app5 _ _ _ _ _ _ _ _ _ | with_reducible apply Junk.alloc | with_reducible apply Junk.junk | with_reducible apply Junk.drew | with_reducible apply Junk.drewN))), by omega⟩, by simp [intOf]; omega⟩
    · have hk2 : ¬ (k : Int) < (l : Int) := by omega
      obtain rfl : k = l := by omega
      go_wp2
      go_ret
      exact ⟨rfl, by ((try simp only [World.junk_junk, Array.append_assoc]); (repeat (first | with_reducible exact Junk.refl _ | with_reducible exact Junk.app _ _ _ _ _ | with_reducible exact Junk.app2 _ _ _ _ _ _ | with_reducible exact Junk.app3 _ _ _ _ _ _ _ | with_reducible exact Junk.app4 _ _ _ _ _ _ _ _ | with_reducible exact Junk.app5 _ _ _ _ _ _ _ _ _ | with_reducible apply Junk.alloc | with_reducible apply Junk.junk | with_reducible apply Junk.drew | with_reducible apply Junk.drewN)))⟩
def optsN (F : List Ot) : Nat := (F.map fun f => 2 + f.l).sum
def rtAll (F : List Ot) : Bool := decide (∀ i, i < F.length → ∀ f, F[i]? = some f → rightO (F.take i) f.k f.l = true ∧ optsN (F.take (i + 1)) ≤ 40)
theorem rtAll_bad {F : List Ot} {i : Nat} {f : Ot} (hf : F[i]? = some f) (h : rightO (F.take i) f.k f.l = false ∨ 40 < optsN (F.take (i + 1))) : rtAll F = false := by
  unfold rtAll
  rw [decide_eq_false_iff_not]
  intro ha
  obtain ⟨h1, h2⟩ := ha i (List.getElem?_eq_some_iff.1 hf).1 f hf
  rcases h with h | h
  · rw [h1] at h; cases h
  · omega
theorem take_succ4 {α : Type} {L : List α} {k : Nat} {x : α} (h : L[k]? = some x) : L.take (k + 1) = L.take k ++ [x] := by
  rw [List.take_add_one, h]; rfl
theorem optsN_succ {F : List Ot} {i : Nat} {f : Ot} (hf : F[i]? = some f) : optsN (F.take (i + 1)) = optsN (F.take i) + (2 + f.l) := by
  unfold optsN
  rw [take_succ4 hf, List.map_append, List.sum_append]
  simp
theorem any_take {F : List Ot} {i : Nat} {k : Int} (h : ∀ q, q < i → ∀ g, F[q]? = some g → (g.k == k) = false) : ((F.take i).any fun f => f.k == k) = false := by
  rw [List.any_eq_false]
  intro x hx
  obtain ⟨j, hj⟩ := List.getElem?_of_mem hx
  rw [List.getElem?_take] at hj
  split at hj
  · have := h j (by assumption) x hj; simp at this ⊢; exact this
  · cases hj
theorem any_take2 {F : List Ot} {i q : Nat} {k : Int} {g : Ot} (hq : q < i) (hg : F[q]? = some g) (h : (g.k == k) = true) : ((F.take i).any fun f => f.k == k) = true := by
  rw [List.any_eq_true]
  exact ⟨g, List.mem_of_getElem? (i := q) (by rw [List.getElem?_take, if_pos hq]; exact hg), h⟩
theorem rightO_known {F : List Ot} {k : Int} {l : Nat} (hk : 2 ≤ k ∧ k ≤ 255) (hn : knownB k = true) (h1 : okSize k l = true) (h2 : (F.any fun f => f.k == k) = false) : rightO F k l = true := by
  unfold rightO; rw [decide_eq_true hk, hn, h1, h2]; rfl
theorem rightO_size {F : List Ot} {k : Int} {l : Nat} (hn : knownB k = true) (h1 : okSize k l = false) : rightO F k l = false := by
  unfold rightO; rw [hn, h1]; simp
theorem rightO_twice {F : List Ot} {k : Int} {l : Nat} (hn : knownB k = true) (h2 : (F.any fun f => f.k == k) = true) : rightO F k l = false := by
  unfold rightO; rw [hn, h2]; simp
theorem rightO_other {F : List Ot} {k : Int} {l : Nat} (hk : 2 ≤ k ∧ k ≤ 255) (hn : knownB k = false) : rightO F k l = true := by
  unfold rightO; rw [decide_eq_true hk, hn]; rfl
theorem rightO_kind {F : List Ot} {k : Int} {l : Nat} (hk : ¬ (2 ≤ k ∧ k ≤ 255)) : rightO F k l = false := by
  unfold rightO; rw [decide_eq_false hk]; rfl
end Go.Proofs.YtfkhnhenemgcmaaDoor
