/- Bytes in a block that the call itself has made, known whole: stores and copies. -/
import Derived.Test.YtfkhnhenemgcmaaDoorBytesEq
import Derived.Test.YtfkhnhenemgcmaaDoorOwn2
import Derived.Laws.CopyOwn
set_option linter.unusedVariables false
set_option maxRecDepth 100000
set_option linter.unusedSimpArgs false
namespace Go
open Go.RowKit
/-- n bytes. -/
def rowArr (n : Nat) (xs : Nat → Int) : Array Value := ((List.range n).map fun i => Value.int .u8 (xs i)).toArray
def upd (xs : Nat → Int) (i : Nat) (v : Int) : Nat → Int := fun k => if k = i then v else xs k
def putAt (xs : Nat → Int) (off m : Nat) (ys : Nat → Int) : Nat → Int := fun k => if off ≤ k ∧ k < off + m then ys (k - off) else xs k
theorem upd_same (xs : Nat → Int) (i : Nat) (v : Int) : upd xs i v i = v := by simp [upd]
theorem upd_other (xs : Nat → Int) (i j : Nat) (v : Int) (h : j ≠ i) : upd xs i v j = xs j := by simp [upd, h]
@[simp, go_sem] theorem size_rowArr (n : Nat) (xs : Nat → Int) : (rowArr n xs).size = n := by simp [rowArr]
@[go_sem] theorem rowArr_get (n i : Nat) (xs : Nat → Int) (h : i < n) : (rowArr n xs)[i]? = some (.int .u8 (xs i)) := by simp [rowArr, h]
@[go_sem] theorem rowArr_set (n i : Nat) (xs : Nat → Int) (v : Int) : (rowArr n xs).setIfInBounds i (.int .u8 v) = rowArr n (upd xs i v) := by
  apply Array.ext_getElem?
  intro j
  simp only [rowArr, Array.getElem?_setIfInBounds, List.getElem?_toArray, List.getElem?_map, List.size_toArray, List.length_map, List.length_range]
  by_cases hj : j < n
  · by_cases hij : i = j
    · subst hij; simp [hj, upd]
    · simp [hj, upd, hij, Ne.symm hij]
  · by_cases hij : i = j
    · subst hij; simp [hj]
    · simp [hj, hij]
theorem rowArr_made (n : Nat) : madeCells #[.int .u8 0] n = rowArr n (fun _ => 0) := by
  apply Array.ext_getElem?
  intro j
  simp only [madeCells, rowArr]
  by_cases hj : j < n
  · simp [hj, Nat.mod_one]
  · simp [hj]
theorem rowArr_congr {n : Nat} {xs ys : Nat → Int} (h : ∀ i, i < n → xs i = ys i) : rowArr n xs = rowArr n ys := by
  unfold rowArr
  congr 1
  apply List.map_congr_left
  intro i hi
  rw [h i (by simpa using hi)]
theorem rowArr_splice {n off m : Nat} {xs ys : Nat → Int} (h : off + m ≤ n) :
    ((rowArr n xs).toList.take off ++ (((List.range m).map fun i => Value.int .u8 (ys i)) ++ (rowArr n xs).toList.drop (off + m))).toArray = rowArr n (putAt xs off m ys) := by
  unfold rowArr
  congr 1
  apply List.ext_getElem?
  intro j
  simp only [List.getElem?_append, List.length_take, List.length_map, List.length_range, List.getElem?_take, List.getElem?_map, List.getElem?_drop, putAt]
  have e : min off n = off := by omega
  rw [e]
  by_cases h1 : j < off
  · rw [if_pos h1, if_pos h1]
    by_cases hj : j < n
    · rw [List.getElem?_range hj]; simp; omega
    · omega
  · rw [if_neg h1]
    by_cases h2 : j - off < m
    · rw [if_pos h2, List.getElem?_range h2, List.getElem?_range (by omega : j < n)]
      simp
      omega
    · rw [if_neg h2, show off + m + (j - off - m) = j from by omega]
      by_cases hj : j < n
      · rw [List.getElem?_range hj]; simp; omega
      · simp [hj]
theorem putAt_nil (xs ys : Nat → Int) (off : Nat) : putAt xs off 0 ys = xs := by
  funext k; simp [putAt]; omega
theorem setRow_alloc (w : World) (c c' : Array Value) (t : TypeId) : (w.alloc (.cells c t)).setRow w.heap.size c' = w.alloc (.cells c' t) := by
  simp only [World.setRow, World.alloc]
  congr 1
  apply Array.ext_getElem?
  intro j
  simp only [Array.getElem?_modify, Array.getElem?_push]
  by_cases hj : w.heap.size = j
  · subst hj; simp
  · simp [hj, Ne.symm hj]
theorem setRow_allocj (w : World) (c c' : Array Value) (t : TypeId) (os : Array Obj) (d : Nat) : ((w.alloc (.cells c t)).junk os d).setRow w.heap.size c' = (w.alloc (.cells c' t)).junk os d := by
  simp only [World.setRow, World.alloc, World.junk]
  congr 1
  apply Array.ext_getElem?
  intro j
  simp only [Array.getElem?_modify, Array.getElem?_append, Array.getElem?_push, Array.size_push]
  by_cases hj : w.heap.size = j
  · subst hj; simp
  · simp [hj, Ne.symm hj]
/-- 'copy' of bytes into a block that is known whole. -/
theorem cp_bytes_wp {P : Program} {o : Oper} {a : Act} {K : Act → World → Prop} {Q : Exit → Act → World → Prop} {w : World} (d s : Operand) (dT sT : TypeId)
    (ho : o.op = .call { callee := .builtin .copy, args := #[d, s], argTypes := #[dT, sT] }) (elem : TypeId) (hu : P.underlying dT = some (.slice elem)) (hsz : (P.info? elem).map (·.size) = some 1)
    (dp sp : Option Addr) (dLen dCap sLen sCap : Nat) (hd : a.eval d = .slice dp dLen dCap) (hs : a.eval s = .slice sp sLen sCap)
    (w0 : World) (n : Nat) (xs : Nat → Int) (t : TypeId) (os : Array Obj) (dd : Nat) (hw : w = (w0.alloc (.cells (rowArr n xs) t)).junk os dd) (off m : Nat) (ys : Nat → Int) (hm : Nat.min sLen dLen = m)
    (hpos : 0 < m → dp = some ⟨w0.heap.size, off, none⟩) (hfit : off + m ≤ n) (hsrc : IntsAt w sp m .u8 ys)
    (h : K (a.put o.dst (goInt m)) ((w0.alloc (.cells (rowArr n (putAt xs off m ys)) t)).junk os dd)) : o.wp P a w K Q := by
  subst hw
  by_cases h0 : m = 0
  · subst h0
    rw [putAt_nil] at h
    have hrun := run_copy_none (P := P) ((w0.alloc (.cells (rowArr n xs) t)).junk os dd) dT sT o.type elem dp sp dLen dCap sLen sCap hu hsz hm
    unfold Oper.wp
    simp [execOp, ho, resolve, invoke, builtin, hd, hs, hrun, Result.andThen]
    exact h
  · obtain ⟨b, o', rfl, _, _⟩ := hsrc 0 (by omega)
    obtain rfl := hpos (by omega)
    have hl : ((List.range m).map fun i => Value.int .u8 (ys i)).length = m := by simp
    have hg : ((w0.alloc (.cells (rowArr n xs) t)).junk os dd).heap[w0.heap.size]? = some (.cells (rowArr n xs) t (0, 0)) := by
      rw [World.heap_junk _ _ _ (by simp)]; exact heap_alloc_new w0 _
    have hrun := run_copy_row (P := P) ((w0.alloc (.cells (rowArr n xs) t)).junk os dd) dT sT o.type elem w0.heap.size off dLen dCap ⟨b, o', none⟩ sLen sCap (rowArr n xs) t ((List.range m).map fun i => Value.int .u8 (ys i)) hu hsz hg (by rw [hl, hm]) (hsrc.src _ rfl) (by rw [hl]; simpa using hfit) (by simp [Value.oneCell'])
    rw [hl, setRow_allocj, List.append_assoc, rowArr_splice hfit] at hrun
    unfold Oper.wp
    simp [execOp, ho, resolve, invoke, builtin, hd, hs, hrun, Result.andThen]
    exact h
/-- 'copy' of bytes into the block that was made last. -/
theorem wpList_copy_bytes {P : Program} {w : World} {ops : Array Oper} {rest : List Oper} {o : Oper} {a : Act} {Q : Exit → Act → World → Prop} (hgd : o.guard = none) (d s : Operand) (dT sT : TypeId)
    (ho : o.op = .call { callee := .builtin .copy, args := #[d, s], argTypes := #[dT, sT] }) (elem : TypeId) (hu : P.underlying dT = some (.slice elem)) (hsz : (P.info? elem).map (·.size) = some 1)
    (dp sp : Option Addr) (dLen dCap sLen sCap : Nat) (hd : a.eval d = .slice dp dLen dCap) (hs : a.eval s = .slice sp sLen sCap)
    (w0 : World) (n : Nat) (xs : Nat → Int) (t : TypeId) (hw : w = w0.alloc (.cells (rowArr n xs) t)) (off m : Nat) (ys : Nat → Int) (hm : Nat.min sLen dLen = m)
    (hpos : 0 < m → dp = some ⟨w0.heap.size, off, none⟩) (hfit : off + m ≤ n) (hsrc : IntsAt w sp m .u8 ys)
    (h : wpList P ops Q rest (a.put o.dst (goInt m)) (w0.alloc (.cells (rowArr n (putAt xs off m ys)) t))) : wpList P ops Q (o :: rest) a w := by
  subst hw
  by_cases h0 : m = 0
  · subst h0
    rw [putAt_nil] at h
    exact wpList_copy_nothing hgd d s dT sT ho elem hu hsz dp sp dLen dCap sLen sCap hd hs hm h
  · obtain ⟨b, o', rfl, _, _⟩ := hsrc 0 (by omega)
    obtain rfl := hpos (by omega)
    have hl : ((List.range m).map fun i => Value.int .u8 (ys i)).length = m := by simp
    refine wpList_copy_own hgd d s dT sT ho elem hu hsz w0.heap.size off dLen dCap ⟨b, o', none⟩ sLen sCap hd hs (rowArr n xs) t (heap_alloc_new w0 _) ((List.range m).map fun i => Value.int .u8 (ys i)) (by rw [hl, hm]) (hsrc.src _ rfl) (by simpa using hfit) (by simp [Value.oneCell']) ?_
    rw [hl, setRow_alloc, rowArr_splice hfit]
    exact h
/-- What has come behind matters no more. -/
theorem then_gen {K : Act → World → Prop} {Q : Exit → Act → World → Prop} {x : Exit} {a : Act} {w : World} {os : Array Obj} {d : Nat} (h : ∀ os d, Exit.then K Q x a (w.junk os d)) : Exit.then K Q x a (w.junk os d) := h os d
/-- Reading the block. -/
theorem ints_row (w : World) (n : Nat) (xs : Nat → Int) (t : TypeId) (g off l : Nat) (hg : g = w.heap.size) (h : off + l ≤ n) : IntsAt (w.alloc (.cells (rowArr n xs) t)) (some ⟨g, off, none⟩) l .u8 (fun i => xs (off + i)) := by
  subst hg
  intro i hi
  refine ⟨w.heap.size, off, rfl, by simp, ?_⟩
  rw [World.cell?_alloc_new, rowArr_get _ _ _ (by omega)]
end Go
