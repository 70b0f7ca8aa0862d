import Derived.Test.YtcnhlbkdhhjmiaaGreatDoorRows
import Derived.WalkKit
import Derived.WalkSpells
import Derived.WalkLawsBesides
import Derived.BigQuiet
import Derived.Deep.QuietTactic
import Derived.Handy
namespace Go
/-- What has come behind a world: blocks, and the count of draws. -/
structure Jk where
  os : Array Obj
  d : Nat
instance : Inhabited Jk := ⟨⟨#[], 0⟩⟩
/-- 'w' with further blocks behind it, and the count of draws moved to 'd'. -/
def World.junk (w : World) (os : Array Obj) (d : Nat) : World := { w with heap := w.heap ++ os, drawn := d }
@[go_sem] theorem lt_fam0 (a : Nat) : (a < a + 1) = True := by simp; try omega
@[go_sem] theorem lt_fam1 (a b0 : Nat) : (a < a + 1 + b0) = True := by simp; try omega
@[go_sem] theorem lt_fam2 (a b0 b1 : Nat) : (a < a + 1 + b0 + b1) = True := by simp; try omega
@[go_sem] theorem lt_fam3 (a b0 b1 b2 : Nat) : (a < a + 1 + b0 + b1 + b2) = True := by simp; try omega
@[go_sem] theorem lt_fam4 (a b0 b1 b2 b3 : Nat) : (a < a + 1 + b0 + b1 + b2 + b3) = True := by simp; try omega
@[go_sem] theorem lt_fam5 (a b0 b1 b2 b3 b4 : Nat) : (a < a + 1 + b0 + b1 + b2 + b3 + b4) = True := by simp; try omega
@[go_sem] theorem lt_fam6 (a b0 b1 b2 b3 b4 b5 : Nat) : (a < a + 1 + b0 + b1 + b2 + b3 + b4 + b5) = True := by simp; try omega
@[go_sem] theorem lt_fam7 (a b0 b1 b2 b3 b4 b5 b6 : Nat) : (a < a + 1 + b0 + b1 + b2 + b3 + b4 + b5 + b6) = True := by simp; try omega
@[go_sem] theorem lt_fam8 (a b0 b1 b2 b3 b4 b5 b6 b7 : Nat) : (a < a + 1 + b0 + b1 + b2 + b3 + b4 + b5 + b6 + b7) = True := by simp; try omega
@[go_sem] theorem lt_fam9 (a b0 b1 b2 b3 b4 b5 b6 b7 b8 : Nat) : (a < a + 1 + b0 + b1 + b2 + b3 + b4 + b5 + b6 + b7 + b8) = True := by simp; try omega
@[go_sem] theorem lt_fam10 (a b0 b1 b2 b3 b4 b5 b6 b7 b8 b9 : Nat) : (a < a + 1 + b0 + b1 + b2 + b3 + b4 + b5 + b6 + b7 + b8 + b9) = True := by simp; try omega
@[go_sem] theorem lt_fam11 (a b0 b1 b2 b3 b4 b5 b6 b7 b8 b9 b10 : Nat) : (a < a + 1 + b0 + b1 + b2 + b3 + b4 + b5 + b6 + b7 + b8 + b9 + b10) = True := by simp; try omega
@[go_sem] theorem lt_fam12 (a b0 b1 b2 b3 b4 b5 b6 b7 b8 b9 b10 b11 : Nat) : (a < a + 1 + b0 + b1 + b2 + b3 + b4 + b5 + b6 + b7 + b8 + b9 + b10 + b11) = True := by simp; try omega
@[go_sem] theorem lt_old1 (n a b0 : Nat) (h : n < a) : (n < a + b0) = True := by simp; omega
@[go_sem] theorem lt_old2 (n a b0 b1 : Nat) (h : n < a) : (n < a + b0 + b1) = True := by simp; omega
@[go_sem] theorem lt_old3 (n a b0 b1 b2 : Nat) (h : n < a) : (n < a + b0 + b1 + b2) = True := by simp; omega
@[go_sem] theorem lt_old4 (n a b0 b1 b2 b3 : Nat) (h : n < a) : (n < a + b0 + b1 + b2 + b3) = True := by simp; omega
@[go_sem] theorem lt_old5 (n a b0 b1 b2 b3 b4 : Nat) (h : n < a) : (n < a + b0 + b1 + b2 + b3 + b4) = True := by simp; omega
@[go_sem] theorem lt_old6 (n a b0 b1 b2 b3 b4 b5 : Nat) (h : n < a) : (n < a + b0 + b1 + b2 + b3 + b4 + b5) = True := by simp; omega
@[go_sem] theorem lt_old7 (n a b0 b1 b2 b3 b4 b5 b6 : Nat) (h : n < a) : (n < a + b0 + b1 + b2 + b3 + b4 + b5 + b6) = True := by simp; omega
@[go_sem] theorem lt_old8 (n a b0 b1 b2 b3 b4 b5 b6 b7 : Nat) (h : n < a) : (n < a + b0 + b1 + b2 + b3 + b4 + b5 + b6 + b7) = True := by simp; omega
@[go_sem] theorem lt_old9 (n a b0 b1 b2 b3 b4 b5 b6 b7 b8 : Nat) (h : n < a) : (n < a + b0 + b1 + b2 + b3 + b4 + b5 + b6 + b7 + b8) = True := by simp; omega
@[go_sem] theorem lt_old10 (n a b0 b1 b2 b3 b4 b5 b6 b7 b8 b9 : Nat) (h : n < a) : (n < a + b0 + b1 + b2 + b3 + b4 + b5 + b6 + b7 + b8 + b9) = True := by simp; omega
@[go_sem] theorem lt_old11 (n a b0 b1 b2 b3 b4 b5 b6 b7 b8 b9 b10 : Nat) (h : n < a) : (n < a + b0 + b1 + b2 + b3 + b4 + b5 + b6 + b7 + b8 + b9 + b10) = True := by simp; omega
@[go_sem] theorem lt_old12 (n a b0 b1 b2 b3 b4 b5 b6 b7 b8 b9 b10 b11 : Nat) (h : n < a) : (n < a + b0 + b1 + b2 + b3 + b4 + b5 + b6 + b7 + b8 + b9 + b10 + b11) = True := by simp; omega
@[go_sem] theorem lt_old13 (n a b0 b1 b2 b3 b4 b5 b6 b7 b8 b9 b10 b11 b12 : Nat) (h : n < a) : (n < a + b0 + b1 + b2 + b3 + b4 + b5 + b6 + b7 + b8 + b9 + b10 + b11 + b12) = True := by simp; omega
section
variable (w : World) (os os' : Array Obj) (d d' n : Nat) (a : Addr)
@[simp, go_sem] theorem World.size_junk : (w.junk os d).heap.size = w.heap.size + os.size := by simp [World.junk]
@[simp, go_sem] theorem World.tape_junk : (w.junk os d).tape = w.tape := rfl
theorem World.heap_junk {k : Nat} (h : k < w.heap.size) : (w.junk os d).heap[k]? = w.heap[k]? := by
  show (w.heap ++ os)[k]? = _
  rw [Array.getElem?_append_left h]
@[go_sem] theorem World.cell?_junk (i : Nat) (h : n < w.heap.size) : (w.junk os d).cell? ⟨n, i, none⟩ = w.cell? ⟨n, i, none⟩ :=
  World.cell?_of_block (w := w) (World.heap_junk w os d h)
@[go_sem] theorem World.frozen?_junk (i : Nat) (h : n < w.heap.size) : (w.junk os d).frozen? ⟨n, i, none⟩ = w.frozen? ⟨n, i, none⟩ :=
  World.frozen?_of_block (w := w) (World.heap_junk w os d h)
@[go_sem] theorem World.setCell_junk (i : Nat) (v : Value) (hlt : n < w.heap.size) : (w.junk os d).setCell ⟨n, i, none⟩ v = (w.setCell ⟨n, i, none⟩ v).junk os d := by
  simp only [World.setCell, World.junk]
  congr 1
  apply Array.ext_getElem?
  intro j
  simp only [Array.getElem?_modify, Array.getElem?_append, Array.size_modify]
  by_cases hi : n = j
  · subst hi; simp [hlt]
  · simp [hi]
@[simp, go_sem] theorem World.drew_junk : (w.junk os d).drew = w.junk os (d + 1) := rfl
@[simp, go_sem] theorem World.drewN_junk : (w.junk os d).drewN n = w.junk os (d + n) := rfl
@[simp, go_sem] theorem World.junk_drew : w.drew.junk os d = w.junk os d := rfl
@[simp, go_sem] theorem World.junk_drewN : (w.drewN n).junk os d = w.junk os d := rfl
@[simp, go_sem] theorem World.junk_junk : (w.junk os d).junk os' d' = w.junk (os ++ os') d' := by simp [World.junk]
/-- 'w'' is 'w' with new blocks, and draws made. -/
def Junk (w w' : World) : Prop := ∃ os d, w' = w.junk os d
variable {w w' w'' : World}
theorem Junk.refl (w : World) : Junk w w := ⟨#[], w.drawn, by simp [World.junk]⟩
theorem Junk.of_eq (h : w = w') : Junk w w' := h ▸ Junk.refl w
theorem Junk.alloc (h : Junk w w') (o : Obj) : Junk w (w'.alloc o) := by
  obtain ⟨os, d, rfl⟩ := h
  exact ⟨os.push o, d, by simp [World.junk, World.alloc]⟩
theorem Junk.drew (h : Junk w w') : Junk w w'.drew := by
  obtain ⟨os, d, rfl⟩ := h
  exact ⟨os, d + 1, rfl⟩
theorem Junk.drewN (h : Junk w w') (n : Nat) : Junk w (w'.drewN n) := by
  obtain ⟨os, d, rfl⟩ := h
  exact ⟨os, d + n, rfl⟩
theorem Junk.junk (h : Junk w w') (os : Array Obj) (d : Nat) : Junk w (w'.junk os d) := by
  obtain ⟨os', d', rfl⟩ := h
  exact ⟨os' ++ os, d, by simp⟩
theorem Junk.trans (h : Junk w w') (h' : Junk w' w'') : Junk w w'' := by
  obtain ⟨os', d', rfl⟩ := h'
  exact h.junk _ _
theorem Junk.size (h : Junk w w') : w.heap.size ≤ w'.heap.size := by obtain ⟨os, d, rfl⟩ := h; simp
theorem Junk.below (h : Junk w w') {B : Nat} (hB : B ≤ w.heap.size) : RowKit.Below B w w' := by
  obtain ⟨os, d, rfl⟩ := h
  exact ⟨rfl, rfl, rfl, by simp, fun k hk => World.heap_junk w os d (by omega)⟩
theorem Junk.of_below (h : RowKit.Below w.heap.size w w') : Junk w w' := by
  refine ⟨w'.heap.extract w.heap.size w'.heap.size, w'.drawn, ?_⟩
  have hh : w'.heap = w.heap ++ w'.heap.extract w.heap.size w'.heap.size := by
    apply Array.ext_getElem?
    intro i
    by_cases hi : i < w.heap.size
    · rw [Array.getElem?_append_left hi, h.block i hi]
    · rw [Array.getElem?_append_right (by omega), Array.getElem?_extract]
      have hs := h.size
      by_cases hj : i < w'.heap.size
      · rw [if_pos (by omega)]; congr 1; omega
      · rw [if_neg (by omega)]; simp; omega
  have h1 := h.os
  have h2 := h.tape
  have h3 := h.output
  cases w'
  cases w
  simp only [World.junk, World.mk.injEq] at *
  exact ⟨hh, h2, trivial, h1, h3⟩
theorem Junk.pair (h : Junk w w') : ∃ x : Jk, w' = w.junk x.os x.d := let ⟨os, d, h⟩ := h; ⟨⟨os, d⟩, h⟩
theorem wp_region_junk {P : Program} {id : Nat} {Q : Exit → Act → World → Prop} {a : Act} {l : List Oper} (hm : P.follows .mixedOrders = true) (hB : Region.lexB .any l.toArray = true)
    (h : wpQuiet P l.toArray (fun w' => ∃ x : Jk, w' = w.junk x.os x.d) (fun a' => ∀ w', (∃ x : Jk, w' = w.junk x.os x.d) → Q .normal a' w') l a) : (Code.region id l.toArray true).wp P Q a w :=
  wp_region_quiet (C := fun w' => ∃ x : Jk, w' = w.junk x.os x.d) hm hB (Junk.refl w).drew.pair (by simpa using h)
theorem Calls.junk_of {P : Program} {f : FuncId} {args : Array Value} {os : Array Obj} {d : Nat} {v : Value}
    (h : Calls P f args (w.junk os d) fun e w' => e = .returned v ∧ Junk (w.junk os d) w') : Calls P f args (w.junk os d) fun e w'' => e = .returned v ∧ ∃ x : Jk, w'' = w.junk x.os x.d :=
  h.mono fun _ _ ⟨he, hm⟩ => ⟨he, (((Junk.refl w).junk os d).trans hm).pair⟩
theorem Calls.junk_of_same {P : Program} {f : FuncId} {args : Array Value} {v : Value}
    (h : Calls P f args w fun e w' => e = .returned v ∧ w = w') : Calls P f args w fun e w'' => e = .returned v ∧ Junk w w'' :=
  h.mono fun _ _ ⟨he, hm⟩ => ⟨he, Junk.of_eq hm⟩
end
/-- The same, found by instances. -/
class JunkC (w w' : World) : Prop where
  out : Junk w w'
class Pre (a b : Array Obj) : Prop where
  out : ∃ c, b = a ++ c
theorem jkc {w w' : World} [h : JunkC w w'] : Junk w w' := h.out
instance Pre.same (a : Array Obj) : Pre a a := ⟨#[], by simp⟩
instance Pre.more (a b : Array Obj) : Pre a (a ++ b) := ⟨b, rfl⟩
instance Pre.both (a b c : Array Obj) [h : Pre b c] : Pre (a ++ b) (a ++ c) := ⟨by obtain ⟨x, rfl⟩ := h.out; exact ⟨x, by simp⟩⟩
instance (priority := high) Pre.rotL (a b c x : Array Obj) [h : Pre (a ++ (b ++ c)) x] : Pre (a ++ b ++ c) x := ⟨by rw [Array.append_assoc]; exact h.out⟩
instance (priority := high) Pre.rotR (a b c x : Array Obj) [h : Pre x (a ++ (b ++ c))] : Pre x (a ++ b ++ c) := ⟨by rw [Array.append_assoc]; exact h.out⟩
section
variable (w w' : World) (a b : Array Obj) (d e : Nat)
instance JunkC.same : JunkC w w := ⟨Junk.refl w⟩
instance JunkC.alloc (o : Obj) [h : JunkC w w'] : JunkC w (w'.alloc o) := ⟨h.out.alloc o⟩
instance JunkC.drew [h : JunkC w w'] : JunkC w w'.drew := ⟨h.out.drew⟩
instance JunkC.drewN (n : Nat) [h : JunkC w w'] : JunkC w (w'.drewN n) := ⟨h.out.drewN n⟩
instance JunkC.junk [h : JunkC w w'] : JunkC w (w'.junk a d) := ⟨h.out.junk a d⟩
instance JunkC.app [h : Pre a b] : JunkC (w.junk a d) (w.junk b e) := ⟨by obtain ⟨x, rfl⟩ := h.out; exact ⟨x, e, by simp⟩⟩
instance JunkC.merR [h : JunkC w' (w.junk (a ++ b) e)] : JunkC w' ((w.junk a d).junk b e) := ⟨by rw [World.junk_junk]; exact h.out⟩
instance JunkC.merL [h : JunkC (w.junk (a ++ b) e) w'] : JunkC ((w.junk a d).junk b e) w' := ⟨by rw [World.junk_junk]; exact h.out⟩
instance JunkC.dropR [h : JunkC w' (w.junk a d)] : JunkC w' (w.drew.junk a d) := ⟨h.out⟩
instance JunkC.dropL [h : JunkC (w.junk a d) w'] : JunkC (w.drew.junk a d) w' := ⟨h.out⟩
end
/-- A way to say 'W with new blocks'. -/
class QC (W : World) (F : Jk → World) : Prop where
  out : ∀ w', Junk W w' → ∃ x, w' = F x
instance QC.one (w W : World) [h : JunkC w W] : QC W (fun x => w.junk x.os x.d) := ⟨fun _ hj => (h.out.trans hj).pair⟩
instance QC.two (w : World) (a os : Array Obj) (d : Nat) : QC (w.junk (a ++ os) d) (fun x => w.junk (a ++ x.os) x.d) := ⟨fun _ ⟨os', d', h⟩ => ⟨⟨os ++ os', d'⟩, by rw [h]; simp⟩⟩
instance QC.three (w : World) (a b os : Array Obj) (d : Nat) : QC (w.junk (a ++ (b ++ os)) d) (fun x => w.junk (a ++ (b ++ x.os)) x.d) := ⟨fun _ ⟨os', d', h⟩ => ⟨⟨os ++ os', d'⟩, by rw [h]; simp⟩⟩
instance QC.four (w : World) (a b c os : Array Obj) (d : Nat) : QC (w.junk (a ++ (b ++ (c ++ os))) d) (fun x => w.junk (a ++ (b ++ (c ++ x.os))) x.d) := ⟨fun _ ⟨os', d', h⟩ => ⟨⟨os ++ os', d'⟩, by rw [h]; simp⟩⟩
instance QC.five (w : World) (a b c e os : Array Obj) (d : Nat) : QC (w.junk (a ++ (b ++ (c ++ (e ++ os)))) d) (fun x => w.junk (a ++ (b ++ (c ++ (e ++ x.os)))) x.d) := ⟨fun _ ⟨os', d', h⟩ => ⟨⟨os ++ os', d'⟩, by rw [h]; simp⟩⟩
theorem Calls.jc {P : Program} {f : FuncId} {args : Array Value} {W : World} {F : Jk → World} {v : Value}
    (h : Calls P f args W fun e w' => e = .returned v ∧ Junk W w') (hc : QC W F := by infer_instance) : Calls P f args W fun e w'' => e = .returned v ∧ ∃ x : Jk, w'' = F x :=
  h.mono fun _ _ ⟨he, hm⟩ => ⟨he, hc.out _ hm⟩
/-- A slice of 'len' elements of 'c' cells each, from 'oa' on: element i holds 'rows i'. -/
def SlAt (W : World) (oa : Option Addr) (len c : Nat) (rows : Nat → List Value) : Prop :=
  ∀ i, i < len → ∃ b off, oa = some ⟨b, off, none⟩ ∧ b < W.heap.size ∧ ∀ j v, (rows i)[j]? = some v → W.cell? ⟨b, off + i * c + j, none⟩ = some v
theorem SlAt.mono {W W' : World} {oa : Option Addr} {len c : Nat} {rows : Nat → List Value} (h : SlAt W oa len c rows) (hb : RowKit.Below W.heap.size W W') : SlAt W' oa len c rows := fun i hi => by
  obtain ⟨b, off, he, hlt, hc⟩ := h i hi
  exact ⟨b, off, he, Nat.lt_of_lt_of_le hlt hb.size, fun j v hv => (hb.cell (p := ⟨b, _, none⟩) hlt).trans (hc j v hv)⟩
theorem SlAt.on {W W' : World} {oa : Option Addr} {len c : Nat} {rows : Nat → List Value} (h : SlAt W oa len c rows) (hj : Junk W W') : SlAt W' oa len c rows := h.mono (hj.below (Nat.le_refl _))
/-- A slice of integers. -/
def IntsAt (W : World) (oa : Option Addr) (len : Nat) (k : IntKind) (xs : Nat → Int) : Prop :=
  ∀ i, i < len → ∃ b off, oa = some ⟨b, off, none⟩ ∧ b < W.heap.size ∧ W.cell? ⟨b, off + i, none⟩ = some (.int k (xs i))
theorem IntsAt.mono {W W' : World} {oa : Option Addr} {len : Nat} {k : IntKind} {xs : Nat → Int} (h : IntsAt W oa len k xs) (hb : RowKit.Below W.heap.size W W') : IntsAt W' oa len k xs := fun i hi => by
  obtain ⟨b, off, he, hlt, hc⟩ := h i hi
  exact ⟨b, off, he, Nat.lt_of_lt_of_le hlt hb.size, (hb.cell (p := ⟨b, _, none⟩) hlt).trans hc⟩
theorem IntsAt.on {W W' : World} {oa : Option Addr} {len : Nat} {k : IntKind} {xs : Nat → Int} (h : IntsAt W oa len k xs) (hj : Junk W W') : IntsAt W' oa len k xs := h.mono (hj.below (Nat.le_refl _))
/-- A slice of bytes: what it holds; nil only if there is nothing. -/
structure Bts (W : World) (oa : Option Addr) (l c : Nat) (xs : Nat → Int) : Prop where
  at_ : IntsAt W oa l .u8 xs
  byte : ∀ i, i < l → 0 ≤ xs i ∧ xs i ≤ 255
  nil : oa = none → l = 0 ∧ c = 0
  le : l ≤ c
  cap : c ≤ maxLen
theorem Bts.on {W W' : World} {oa : Option Addr} {l c : Nat} {xs : Nat → Int} (h : Bts W oa l c xs) (hj : Junk W W') : Bts W' oa l c xs := ⟨h.at_.on hj, h.byte, h.nil, h.le, h.cap⟩
theorem Junk.setCell {w w' : World} (h : Junk w w') {a : Addr} (ha : w.heap.size ≤ a.block) (v : Value) : Junk w (w'.setCell a v) := Junk.of_below ((h.below (Nat.le_refl _)).setCell ha v)
theorem ret_bool {a b : Bool} (h : a = b) : Ending.returned (.bool a) = .returned (.bool b) := by rw [h]
theorem ret_int {k : IntKind} {a b : Int} (h : a = b) : Ending.returned (.int k a) = .returned (.int k b) := by rw [h]
theorem ret_val {a b : Value} (h : a = b) : Ending.returned a = .returned b := by rw [h]
end Go
