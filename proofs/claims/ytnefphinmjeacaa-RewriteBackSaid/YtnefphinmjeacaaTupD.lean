/- tuple.Less, tuple.Hash. -/
import Derived.Test.YtnefphinmjeacaaTupC
import Derived.Laws.BitsAllLaws
import Derived.LoopN
set_option linter.unusedVariables false
set_option maxRecDepth 100000
set_option linter.unusedSimpArgs false
namespace Go.Proofs.Ytnefphinmjeacaa
open Go.RowKit
/-- A slice of the call's own that is not empty, by its block. -/
theorem grew_some {W0 w' : World} {n : Nat} {xs : List Value} {e : Ending} (h : GrewM W0 n xs e w') (hn : 0 < n) : ∃ g cap, e = .returned (.slice (some ⟨g, 0, none⟩) n cap) ∧ Junk W0 w' ∧ W0.heap.size ≤ g ∧ g < w'.heap.size ∧ n ≤ cap ∧ cap ≤ maxLen ∧ ∀ j u, xs[j]? = some u → w'.cell? ⟨g, j, none⟩ = some u := by
  obtain ⟨oa, cap, he, hj, ho⟩ := h
  obtain ⟨g, rfl, h1, h2, h3⟩ := own_some ho hn
  exact ⟨g, cap, he, hj, h1, h2, ho.capLe.1, ho.capLe.2, fun j u hu => (h3 j u hu).1⟩
structure CelL (w : World) (g : Nat) (xs : List Int) : Prop where
  lt : g < w.heap.size
  c : ∀ j x, xs[j]? = some x → w.cell? ⟨g, j, none⟩ = some (.int .u8 x)
theorem CelL.on {w w' : World} {g : Nat} {xs : List Int} (h : CelL w g xs) (hj : Junk w w') : CelL w' g xs := by
  obtain ⟨os, d, rfl⟩ := hj
  exact ⟨by have := h.lt; simp; omega, fun j x hx => by rw [World.cell?_junk _ _ _ _ _ h.lt]; exact h.c j x hx⟩
def RawM (w : World) (xs : List Int) (e : Ending) (w' : World) : Prop := ∃ g cap, e = .returned (.slice (some ⟨g, 0, none⟩) 13 cap) ∧ Junk w w' ∧ CelL w' g xs ∧ 13 ≤ cap ∧ cap ≤ maxLen
theorem hashStep_bd (h c : Int) : 0 ≤ hashStep h c ∧ hashStep h c ≤ 4294967295 := by unfold hashStep; omega
theorem hash_bd (xs : List Int) (h : Int) (hh : 0 ≤ h ∧ h ≤ 4294967295) : 0 ≤ xs.foldl hashStep h ∧ xs.foldl hashStep h ≤ 4294967295 := by
  induction xs generalizing h with
  | nil => exact hh
  | cons x xs ih => exact ih _ (hashStep_bd h x)
theorem foldl_take_succ {xs : List Int} {i : Nat} {x : Int} (h : xs[i]? = some x) (s : Int) : (xs.take (i + 1)).foldl hashStep s = hashStep ((xs.take i).foldl hashStep s) x := by
  rw [List.take_add_one, h, Option.toList_some, List.foldl_append]
  rfl
theorem seed_bd {s : Int} (h : 0 ≤ s ∧ s ≤ 4294967295) : (0 : Int) ≤ ((2166136261 ^^^ s.toNat : Nat) : Int) ∧ ((2166136261 ^^^ s.toNat : Nat) : Int) ≤ 4294967295 := by
  have : 2166136261 ^^^ s.toNat < 2 ^ 32 := Nat.xor_lt_two_pow (by decide) (by omega)
  omega
end Go.Proofs.Ytnefphinmjeacaa
