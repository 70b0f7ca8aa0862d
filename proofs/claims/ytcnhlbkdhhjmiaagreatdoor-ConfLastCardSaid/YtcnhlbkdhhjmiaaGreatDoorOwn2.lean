/- More of slices that the call itself has made. -/
import Derived.Test.YtcnhlbkdhhjmiaaGreatDoorBytes
set_option linter.unusedVariables false
set_option maxRecDepth 100000
namespace Go.Proofs.YtcnhlbkdhhjmiaaGreatDoor
open Go.RowKit
instance : Inhabited Jk3 := ⟨⟨#[], #[], 0⟩⟩
theorem own_made {B : Nat} (w : World) (e : TypeId) (size cap n : Nat) (cur : Array Value) (hn : n = w.heap.size) (hb : B ≤ w.heap.size) (hm : cap ≤ maxLen) (hs : cur.size = cap * size) : Own B (w.alloc (.cells cur e)) e size (some ⟨n, 0, none⟩) cap 0 [] := by
  subst hn; exact World.ownsRow_made w cur cap hb hm hs
/-- The same, where more has come behind. -/
theorem own_made' {B : Nat} {w : World} {e : TypeId} {size cap n : Nat} {cur : Array Value} (os : Array Obj) (d : Nat) (hn : n = w.heap.size) (hb : B ≤ w.heap.size) (hm : cap ≤ maxLen) (hs : cur.size = cap * size) : Own B ((w.alloc (.cells cur e)).junk os d) e size (some ⟨n, 0, none⟩) cap 0 [] :=
  (own_made w e size cap n cur hn hb hm hs).on ⟨os, d, rfl⟩
theorem own_lit {B : Nat} (w : World) (e : TypeId) (n m : Nat) (cur : Array Value) (hn : n = w.heap.size) (hb : B ≤ w.heap.size) (hm : m = cur.size) (hmax : m ≤ maxLen) : Own B (w.alloc (.cells cur e)) e 1 (some ⟨n, 0, none⟩) m m cur.toList := by
  subst hn hm
  refine ⟨by simp, .inr ⟨w.heap.size, cur.size, cur, rfl, hb, heap_alloc_new w _, Nat.le_refl _, hmax, by simp, by rw [Nat.mul_one, ← Array.length_toList, List.take_length]⟩⟩
theorem own_lit' {B : Nat} {w : World} {e : TypeId} {n m : Nat} {cur : Array Value} (os : Array Obj) (d : Nat) (hn : n = w.heap.size) (hb : B ≤ w.heap.size) (hm : m = cur.size) (hmax : m ≤ maxLen) : Own B ((w.alloc (.cells cur e)).junk os d) e 1 (some ⟨n, 0, none⟩) m m cur.toList :=
  (own_lit w e n m cur hn hb hm hmax).on ⟨os, d, rfl⟩
theorem cell_over {w : World} {cur : Array Value} {t : TypeId} {os : Array Obj} {d g i : Nat} {v : Value} (hg : w.heap.size + 1 ≤ g) (hlt : g < ((w.alloc (.cells cur t)).junk os d).heap.size)
    (hc : ((w.alloc (.cells cur t)).junk os d).cell? ⟨g, i, none⟩ = some v) (cur' : Array Value) (os' : Array Obj) (d' : Nat) : ((w.alloc (.cells cur' t)).junk (os ++ os') d').cell? ⟨g, i, none⟩ = some v := by
  rw [← hc]
  apply World.cell?_of_block
  simp only [World.junk, World.alloc]
  rw [← Array.append_assoc, Array.getElem?_append_left (by simp at hlt ⊢; omega), Array.getElem?_append_right (by simp; omega), Array.getElem?_append_right (by simp; omega)]
  simp
end Go.Proofs.YtcnhlbkdhhjmiaaGreatDoor
