/- The contracts of bytes.Clone and bytes.Equal, and of ip's readers of two and four bytes. -/
import Derived.Test.YtcnhlbkdhhjmiaaGreatDoorRef02
set_option linter.unusedVariables false
set_option maxRecDepth 100000
set_option linter.unusedSimpArgs false
namespace Go.Proofs.YtcnhlbkdhhjmiaaGreatDoor
open Go.RowKit
/-- Nil, or in a block from 'B' on. -/
def Fresh (B : Nat) (oa : Option Addr) : Prop := ∀ a, oa = some a → B ≤ a.block
theorem own_fresh {B : Nat} {w : World} {e : TypeId} {size : Nat} {oa : Option Addr} {cap n : Nat} {xs : List Value} (h : Own B w e size oa cap n xs) : Fresh B oa := fun a ha => by
  rcases h.form with ⟨h1, _⟩ | ⟨g, cur, h1, h2, _⟩
  · rw [h1] at ha; cases ha
  · rw [h1] at ha; cases ha; exact h2
theorem Fresh.lower {B B' : Nat} {oa : Option Addr} (h : Fresh B oa) (hB : B' ≤ B) : Fresh B' oa := fun a ha => Nat.le_trans hB (h a ha)
theorem Fresh.nil (B : Nat) : Fresh B none := fun a ha => by cases ha
/-- What lies in new memory stays when the call's own block before it is written. -/
theorem bts_over {w : World} {cur cur' : Array Value} {t : TypeId} {os os' : Array Obj} {d d' : Nat} {oa : Option Addr} {l c : Nat} {xs : Nat → Int}
    (h : Bts ((w.alloc (.cells cur t)).junk os d) oa l c xs) (hf : Fresh (w.heap.size + 1) oa) (ho : ∃ x, os' = os ++ x) : Bts ((w.alloc (.cells cur' t)).junk os' d') oa l c xs := by
  obtain ⟨x, rfl⟩ := ho
  refine ⟨fun i hi => ?_, h.byte, h.nil, h.le, h.cap⟩
  obtain ⟨b, off, he, hlt, hc⟩ := h.at_ i hi
  have hb := hf _ he
  simp only at hb
  refine ⟨b, off, he, by simp at hlt ⊢; omega, ?_⟩
  rw [← hc]
  apply World.cell?_of_block
  simp only [World.junk, World.alloc]
  rw [← Array.append_assoc, Array.getElem?_append_left (by simp at hlt ⊢; omega), Array.getElem?_append_right (by simp; omega), Array.getElem?_append_right (by simp; omega)]
  simp
/-- A copy: new memory that holds the same bytes. -/
def Cloned (w : World) (oa : Option Addr) (l : Nat) (xs : Nat → Int) (e : Ending) (w' : World) : Prop :=
  ∃ oc c, e = .returned (.slice oc l c) ∧ Junk w w' ∧ Bts w' oc l c xs ∧ (oc = none → oa = none) ∧ Fresh w.heap.size oc
/-- A part of a slice of bytes. -/
theorem bts_sub {w : World} {b off l c : Nat} {xs : Nat → Int} (h : Bts w (some ⟨b, off, none⟩) l c xs) (i j : Nat) (hij : i ≤ j) (hj : j ≤ l) :
    Bts w (if c = i then some ⟨b, off, none⟩ else some ⟨b, off + i, none⟩) (j - i) (c - i) (fun k => xs (i + k)) := by
  have hle := h.le
  have hcap := h.cap
  refine ⟨fun k hk => ?_, fun k hk => h.byte _ (by omega), fun hn => (by split at hn <;> cases hn), by omega, by omega⟩
  obtain ⟨b', off', he, hlt, hc⟩ := h.at_ (i + k) (by omega)
  cases he
  rw [if_neg (by omega)]
  exact ⟨b, off + i, rfl, hlt, by rw [Nat.add_assoc]; exact hc⟩
theorem own_bts {B : Nat} {w : World} {oa : Option Addr} {cap n : Nat} {xs : Nat → Int} (h : Own B w 5 1 oa cap n ((List.range n).map fun i => Value.int .u8 (xs i))) (hx : ∀ i, i < n → 0 ≤ xs i ∧ xs i ≤ 255) : Bts w oa n cap xs := by
  have h2 : Own B w 5 1 oa cap n (((List.range n).map xs).map (Value.int .u8)) := by rw [List.map_map]; exact h
  refine ⟨fun i hi => ?_, hx, ?_, h.capLe.1, h.capLe.2⟩
  · obtain ⟨b, off, h3, h4, h5⟩ := h2.ints i hi
    refine ⟨b, off, h3, h4, ?_⟩
    rw [h5]
    simp [List.getD, hi]
  · intro hn
    rcases h.form with ⟨_, h3, h4⟩ | ⟨g, cur, h3, _⟩
    · exact ⟨h3, h4⟩
    · rw [hn] at h3; cases h3
theorem range_ext {n m : Nat} {f : Nat → Value} : (List.range n).map f ++ ((List.range m).map fun i => f (n + i)) = (List.range (n + m)).map f := by
  rw [List.range_add, List.map_append, List.map_map]; rfl
end Go.Proofs.YtcnhlbkdhhjmiaaGreatDoor
