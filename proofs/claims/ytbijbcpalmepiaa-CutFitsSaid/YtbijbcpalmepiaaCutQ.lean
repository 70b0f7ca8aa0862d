/- Where the pieces begin; a world split at one of its blocks. -/
import Derived.Test.YtbijbcpalmepiaaCutP
set_option linter.unusedVariables false
set_option maxRecDepth 100000
set_option linter.unusedSimpArgs false
namespace Go.Proofs.Ytbijbcpalmepiaa
open Go.RowKit
def cutAt (p : Ip) (mtu : Int) (j : Nat) : Nat := if 20 + (p.ol : Int) + p.bl ≤ mtu then (if j = 0 then 0 else p.bl) else min (j * cutZ p mtu) p.bl
theorem cutAt_zero (p : Ip) (mtu : Int) : cutAt p mtu 0 = 0 := by unfold cutAt; split <;> simp
theorem cutAt_le (p : Ip) (mtu : Int) (j : Nat) : cutAt p mtu j ≤ p.bl := by
  unfold cutAt
  split
  · split <;> omega
  · omega
theorem cutAt_end {p : Ip} {mtu : Int} (h : cutErr p mtu = 0) : cutAt p mtu (cutL p mtu).length = p.bl := by
  rcases (cutErr_zero h).way with hw | ⟨hw, z1, z2, z3, z4, z5⟩
  · rw [cutL_one h hw]; unfold cutAt; rw [if_pos hw]; rfl
  · have hc := ceil_spec (b := p.bl) (Z := cutZ p mtu) (by omega)
    rw [cutL_many h hw]
    simp only [piecesL, List.length_map, List.length_range]
    unfold cutAt
    rw [if_neg hw]
    omega
theorem piece_at {p : Ip} {mtu : Int} (h : cutErr p mtu = 0) {i : Nat} {q : Ip} (hq : (cutL p mtu)[i]? = some q) : PieceOf p mtu i q (cutAt p mtu i) (cutAt p mtu (i + 1)) := by
  have K := cutErr_zero h
  rcases K.way with hw | ⟨hw, z1, z2, z3, z4, z5⟩
  · have hL := cutL_one h hw
    rw [hL] at hq
    have hi : i = 0 := by
      have := (List.getElem?_eq_some_iff.1 hq).1
      simp at this; exact this
    subst hi
    simp only [List.getElem?_cons_zero, Option.some.injEq] at hq
    have a0 : cutAt p mtu 0 = 0 := cutAt_zero p mtu
    have a1 : cutAt p mtu (0 + 1) = p.bl := by unfold cutAt; rw [if_pos hw]; rfl
    rw [a0, a1]
    exact ⟨hq.symm, Nat.zero_le _, Nat.le_refl _, rfl, fun _ => rfl, by omega, fun h => by omega, fun _ => by rw [hL]; rfl, fun h => h⟩
  · have hL := cutL_many h hw
    have hc := ceil_spec (b := p.bl) (Z := cutZ p mtu) (by omega)
    have hn : (cutL p mtu).length = (p.bl + cutZ p mtu - 1) / cutZ p mtu := by rw [hL]; simp [piecesL]
    have hA : ∀ j, cutAt p mtu j = min (j * cutZ p mtu) p.bl := fun j => by unfold cutAt; rw [if_neg hw]
    rw [hA, hA]
    rw [hL] at hq
    rw [← hn] at hc
    generalize hN : (p.bl + cutZ p mtu - 1) / cutZ p mtu = N at hq hn
    generalize cutZ p mtu = Z at *
    unfold piecesL at hq
    rw [List.getElem?_map] at hq
    have hi : i < N := by
      rcases Nat.lt_or_ge i N with h' | h'
      · exact h'
      · rw [List.getElem?_eq_none (by simpa using h')] at hq; cases hq
    rw [List.getElem?_range hi] at hq
    simp only [Option.map_some, Option.some.injEq] at hq
    rw [hn] at hc
    have h1 : (i + 1) * Z ≤ N * Z := Nat.mul_le_mul_right Z hi
    rw [Nat.succ_mul] at h1
    have h8 : (i * Z) % 8 = 0 := by rw [Nat.mul_mod, z3]; simp
    have hlast : p.bl ≤ i * Z + Z → i + 1 = N := by
      intro h2
      rcases Nat.lt_or_ge (i + 1) N with h' | h'
      · have h3 : (i + 1 + 1) * Z ≤ N * Z := Nat.mul_le_mul_right Z h'
        rw [Nat.succ_mul, Nat.succ_mul] at h3
        omega
      · omega
    have h0 : i = 0 → i * Z = 0 := fun h => by rw [h]; simp
    rw [Nat.succ_mul]
    generalize i * Z = J at *
    generalize N * Z = M at *
    rw [show min J p.bl = J by omega]
    exact ⟨hq.symm, by omega, by omega, h8, h0, by omega, fun h => by omega, fun h => by rw [hn]; exact hlast (by omega), fun h => by omega⟩
theorem split_arr {os : Array Obj} {m : Nat} {o : Obj} (h : os[m]? = some o) : ∃ osL osR : Array Obj, os = osL ++ (#[o] ++ osR) ∧ osL.size = m := by
  obtain ⟨hm, he⟩ := Array.getElem?_eq_some_iff.1 h
  refine ⟨(os.toList.take m).toArray, (os.toList.drop (m + 1)).toArray, ?_, by simp; omega⟩
  apply Array.ext'
  simp only [Array.toList_append]
  have : os.toList = os.toList.take m ++ (os.toList[m]'(by simpa using hm) :: os.toList.drop (m + 1)) := by
    rw [← List.drop_eq_getElem_cons, List.take_append_drop]
  conv => lhs; rw [this]
  simp [← he]
theorem junk_split (w : World) (osL osR : Array Obj) (o : Obj) (d : Nat) : w.junk (osL ++ (#[o] ++ osR)) d = ((w.junk osL d).alloc o).junk osR d := by
  simp [World.junk, World.alloc]
theorem after_append {V W2 : World} {o : Obj} {os3 : Array Obj} {d3 : Nat} {row : Option Nat} (hV : Junk W2 V) (hg : (V.alloc o).grownBy (W2.junk os3 d3) row) (hr : ∀ k, row = some k → k < V.heap.size) :
    ∃ osL osR, os3 = osL ++ (#[o] ++ osR) ∧ W2.heap.size + osL.size = V.heap.size := by
  have h1 : (W2.junk os3 d3).heap[V.heap.size]? = some o := by
    rw [hg.block V.heap.size (by simp) (fun h => by have := hr _ h.symm; omega)]
    exact heap_alloc_new V o
  have h2 := hV.size
  have h3 : os3[V.heap.size - W2.heap.size]? = some o := by
    rw [← h1]
    show _ = (W2.heap ++ os3)[V.heap.size]?
    rw [Array.getElem?_append_right h2]
  obtain ⟨osL, osR, h4, h5⟩ := split_arr h3
  exact ⟨osL, osR, h4, by omega⟩
theorem own_past {B : Nat} {V : World} {o o' : Obj} {e : TypeId} {os x : Array Obj} {d d' size cap n : Nat} {oa : Option Addr} {l : List Value} (h : Own B ((V.alloc o).junk os d) e size oa cap n l) (hne : rowOf oa ≠ some V.heap.size) : Own B ((V.alloc o').junk (os ++ x) d') e size oa cap n l := by
  refine ⟨h.1, ?_⟩
  rcases h.2 with hn | ⟨g, cap', cur1, h1, hb, hg, hr⟩
  · exact .inl hn
  · refine .inr ⟨g, cap', cur1, h1, hb, ?_, hr⟩
    rw [← hg]
    have hlt := (Array.getElem?_eq_some_iff.1 hg).1
    have hk : g ≠ V.heap.size := fun h2 => hne (by simp only [Value.slice.injEq] at h1; rw [h1.1, h2]; rfl)
    simp only [World.junk, World.alloc] at hlt ⊢
    rw [← Array.append_assoc, Array.getElem?_append_left (by simp at hlt ⊢; omega)]
    by_cases h3 : g < V.heap.size
    · rw [Array.getElem?_append_left (by simp; omega), Array.getElem?_append_left (by simp; omega), Array.getElem?_push_lt h3, Array.getElem?_push_lt h3]
    · rw [Array.getElem?_append_right (by simp; omega), Array.getElem?_append_right (by simp; omega)]
      simp
theorem bytes_snoc (n m : Nat) (f g : Nat → Int) (h : ∀ i, i < m → g i = f (n + i)) : bytesL n f ++ ((List.range m).map fun i => .int .u8 (g i)) = bytesL (n + m) f := by
  unfold bytesL
  rw [← @range_ext n m (fun i => Value.int .u8 (f i))]
  congr 1
  apply List.map_congr_left
  intro i hi
  rw [h i (List.mem_range.1 hi)]
end Go.Proofs.Ytbijbcpalmepiaa
