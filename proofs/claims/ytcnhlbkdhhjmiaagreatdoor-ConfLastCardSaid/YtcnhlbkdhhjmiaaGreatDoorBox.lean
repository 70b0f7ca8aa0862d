/- A block that is known whole: its cells, stores into it, whole structs loaded and stored. -/
import Derived.Test.YtcnhlbkdhhjmiaaGreatDoorFlatR
set_option linter.unusedVariables false
set_option maxRecDepth 100000
set_option linter.unusedSimpArgs false
namespace Go
open RowKit
/-- The block g holds just these cells. -/
def Box (V : World) (g : Nat) (e : TypeId) (cs : List Value) : Prop := V.heap[g]? = some (.cells cs.toArray e (0, 0))
section
variable {V V' w : World} {g : Nat} {e : TypeId} {cs : List Value}
theorem Box.lt (h : Box V g e cs) : g < V.heap.size := (Array.getElem?_eq_some_iff.1 h).1
theorem Box.on (h : Box V g e cs) (hj : Junk V V') : Box V' g e cs := by
  obtain ⟨os, d, rfl⟩ := hj
  unfold Box
  rw [World.heap_junk _ _ _ h.lt]
  exact h
theorem Box.grown {row : Option Nat} (h : Box V g e cs) (hg : V.grownBy V' row) (hne : some g ≠ row) : Box V' g e cs := (hg.block g h.lt hne).trans h
theorem Box.cell (h : Box V g e cs) {j : Nat} {v : Value} (hv : cs[j]? = some v) : V.cell? ⟨g, j, none⟩ = some v := by
  rw [cell_of_row V g j cs.toArray e (0, 0) h]
  simpa using hv
theorem Box.frozen (h : Box V g e cs) (j : Nat) : V.frozen? ⟨g, j, none⟩ = false := by
  unfold World.frozen?
  simp only [show V.heap[g]? = some (.cells cs.toArray e (0, 0)) from h]
  simp
theorem Box.own (h : Box V g e cs) : Own g V e cs.length (some ⟨g, 0, none⟩) 1 1 cs := ⟨by rw [Nat.one_mul], .inr ⟨g, 1, cs.toArray, rfl, Nat.le_refl _, h, Nat.le_refl _, by decide, by simp, by simp⟩⟩
theorem own_Box {B sz : Nat} (h : Own B V e sz (some ⟨g, 0, none⟩) 1 1 cs) : Box V g e cs := by
  rcases h.form with ⟨h0, _⟩ | ⟨g1, cur, h0, _, h1, _, _, h2, h3⟩
  · cases h0
  · cases h0
    rw [List.take_of_length_le (by rw [Array.length_toList, h2]; omega)] at h3
    unfold Box
    rw [← h3]
    exact h1
theorem Box.set (h : Box V g e cs) (j : Nat) (v : Value) : Box (V.setCell ⟨g, j, none⟩ v) g e (cs.set j v) := own_Box (World.ownsRow.stored h.own j v).1
theorem Box.far (h : Box V g e cs) {a : Addr} (hne : a.block ≠ g) (v : Value) : Box (V.setCell a v) g e cs := by
  unfold Box
  rw [Below.heap_setCell _ _ _ _ (fun x => hne x.symm)]
  exact h
theorem box_new (V : World) (cs : Array Value) (e : TypeId) : Box (V.alloc (.cells cs e)) V.heap.size e cs.toList := by
  unfold Box
  rw [Array.toArray_toList]
  exact heap_alloc_last V _
theorem grown_set (w : World) (a : Addr) (v : Value) : w.grownBy (w.setCell a v) (some a.block) := ⟨rfl, rfl, rfl, by simp [World.setCell], fun k _ hk => Below.heap_setCell _ _ _ k (fun e => hk (by rw [e]))⟩
theorem grown_junk {w w' : World} (h : Junk w w') (row : Option Nat) : w.grownBy w' row := by
  obtain ⟨os, d, rfl⟩ := h
  exact ⟨rfl, rfl, rfl, by simp, fun k hk _ => World.heap_junk _ _ _ hk⟩
theorem grown_tr {a b c : World} {row : Option Nat} (h : a.grownBy b row) (k : b.grownBy c row) : a.grownBy c row :=
  ⟨k.os.trans h.os, k.tape.trans h.tape, k.output.trans h.output, Nat.le_trans h.size k.size, fun n hn hne => (k.block n (Nat.lt_of_lt_of_le hn h.size) hne).trans (h.block n hn hne)⟩
/-- A store into a block that was not there at first. -/
theorem grown_past {a b c : World} {row : Option Nat} {r : Nat} (h : a.grownBy b row) (k : b.grownBy c (some r)) (hr : a.heap.size ≤ r) : a.grownBy c row :=
  ⟨k.os.trans h.os, k.tape.trans h.tape, k.output.trans h.output, Nat.le_trans h.size k.size, fun n hn hne => (k.block n (Nat.lt_of_lt_of_le hn h.size) (fun e => by cases e; omega)).trans (h.block n hn hne)⟩
variable {P : Program}
/-- A whole struct out of a part of the block. -/
theorem Box.loadAt (h : Box V g e cs) (t : TypeId) (o n : Nat) (hagg : ∀ w, (isAgg t).run P w = .ok true w) (hsz : ∀ w, (Go.sizeOf t).run P w = .ok n w) (hl : ((cs.drop o).take n).length = n) :
    (Instr.loadAt t (.pointer (some ⟨g, o, none⟩))).run P V = .ok (.agg ((cs.drop o).take n).toArray) V := by
  have h1 := run_loadCells_list (P := P) (w := V) ⟨g, o, none⟩ ((cs.drop o).take n) (fun j v hv => by
    rw [Addr.add_lit]
    rw [List.getElem?_take] at hv
    split at hv
    · rw [List.getElem?_drop] at hv
      exact h.cell hv
    · cases hv)
  rw [hl] at h1
  simp only [Instr.loadAt, Instr.sureAddr, loadVar, Sem.run_bind, Sem.run_pure, Result.andThen, hagg, hsz, if_true, h1]
theorem wpList_loadBox {ops : Array Oper} {rest : List Oper} {o : Oper} {a : Act} {Q : Exit → Act → World → Prop} (hgd : o.guard = none) (t : TypeId) (x : Operand) (ho : o.op = .load t x)
    (hagg : ∀ w, (isAgg t).run P w = .ok true w) (n : Nat) (hsz : ∀ w, (Go.sizeOf t).run P w = .ok n w) (h : Box V g e cs) (off : Nat) (hx : a.eval x = .pointer (some ⟨g, off, none⟩)) (xs : List Value) (hl : (cs.drop off).take n = xs) (hn : xs.length = n)
    (hK : wpList P ops Q rest (a.put o.dst (.agg xs.toArray)) V) : wpList P ops Q (o :: rest) a V :=
  wpList_plain hgd fun K hK2 => by
    subst hl
    have hrun := h.loadAt (P := P) t off n hagg hsz hn
    have := hK2 _ _ hK
    unfold Oper.wp
    simp only [execOp, ho, hx, hrun, Sem.run_bind, Sem.run_pure, Result.andThen]
    simpa [Oper.upon] using this
theorem wpList_storeBox {ops : Array Oper} {rest : List Oper} {o : Oper} {a : Act} {Q : Exit → Act → World → Prop} (hgd : o.guard = none) (t : TypeId) (x y : Operand) (ho : o.op = .store t x y)
    (h : Box V g e cs) (off : Nat) (c : Array Value) (hi : (P.info? t).map (·.size) = some c.size) (hx : a.eval x = .pointer (some ⟨g, off, none⟩)) (hy : a.eval y = .agg c) (hfit : off + c.size ≤ cs.length) (h1 : ∀ v ∈ c.toList, v.oneCell' = true)
    (hK : ∀ w', V.grownBy w' (some g) → Box w' g e (cs.take off ++ c.toList ++ cs.drop (off + c.toList.length)) → wpList P ops Q rest (a.put o.dst undef) w') : wpList P ops Q (o :: rest) a V :=
  wpList_storeOwn hgd t x y ho h.own off c hi hx hy (by rw [Nat.one_mul]; exact hfit) h1 fun w' hg hO => hK w' hg (own_Box hO)
theorem Box.loadVar (h : Box V g e cs) (t : TypeId) (hagg : ∀ w, (isAgg t).run P w = .ok true w) (hsz : ∀ w, (Go.sizeOf t).run P w = .ok cs.length w) : (Go.loadVar t ⟨g, 0, none⟩).run P V = .ok (.agg cs.toArray) V := by
  have h1 := h.loadAt (P := P) t 0 cs.length hagg hsz (by simp)
  simp only [Instr.loadAt, Instr.sureAddr, Sem.run_bind, Sem.run_pure, Result.andThen, List.drop_zero, List.take_length] at h1
  exact h1
theorem results_cell1 {fn : Func} {a : Tmp} {ty : TypeId} {tmps : Array Value} {ad : Addr} {v : Value} (h : fn.results = #[.cell a ty]) (ha : tmps.getD a undef = .pointer (some ad)) (hl : (Go.loadVar ty ad).run P w = .ok v w) : (results fn tmps).run P w = .ok v w := by
  simp only [Array.getD_eq_getD_getElem?] at ha
  simp [results, h, ha, asAddr, hl, Result.andThen]
theorem results_cell1tt {fn : Func} {a b c : Tmp} {ty : TypeId} {tmps : Array Value} {ad : Addr} {v : Value} (h : fn.results = #[.cell a ty, .tmp b, .tmp c]) (ha : tmps.getD a undef = .pointer (some ad)) (hl : (Go.loadVar ty ad).run P w = .ok v w) : (results fn tmps).run P w = .ok (.tuple #[v, tmps.getD b undef, tmps.getD c undef]) w := by
  simp only [Array.getD_eq_getD_getElem?] at ha
  simp [results, h, ha, asAddr, hl, Result.andThen]
theorem results_cell2tt {fn : Func} {a b c d : Tmp} {ta tb : TypeId} {tmps : Array Value} {x y : Addr} {u v : Value} (h : fn.results = #[.cell a ta, .cell b tb, .tmp c, .tmp d]) (ha : tmps.getD a undef = .pointer (some x)) (hb : tmps.getD b undef = .pointer (some y)) (hl : (Go.loadVar ta x).run P w = .ok u w) (hm : (Go.loadVar tb y).run P w = .ok v w) : (results fn tmps).run P w = .ok (.tuple #[u, v, tmps.getD c undef, tmps.getD d undef]) w := by
  simp only [Array.getD_eq_getD_getElem?] at ha hb
  simp [results, h, ha, hb, asAddr, hl, hm, Result.andThen]
end
end Go
