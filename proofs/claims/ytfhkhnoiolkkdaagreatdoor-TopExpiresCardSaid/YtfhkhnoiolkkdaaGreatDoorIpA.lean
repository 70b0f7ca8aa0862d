/- The contracts of the small functions of ip. -/
import Derived.Test.YtfhkhnoiolkkdaaGreatDoorRows
import Derived.WalkKit
import Derived.WalkSpells
import Derived.WalkLawsBesides
import Derived.BigQuiet
import Derived.Deep.QuietTactic
import Derived.Handy
import Derived.ProofKit
import Derived.OpenShut
import Derived.Deep.Slices
import Derived.Deep.Fields
import Derived.Lib.Hide
import Derived.Laws.AppendOwnNone
import Derived.Shelf.Bytes.SlEqualAll
import Derived.Laws.CopyOwn
namespace Go
structure Jk where
  os : Array Obj
  d : Nat
instance : Inhabited Jk := ⟨⟨#[], 0⟩⟩
def World.junk (w : World) (os : Array Obj) (d : Nat) : World := { w with heap := w.heap ++ os, drawn := d }
@[go_sem] theorem lt_fam0 (a : Nat) : (a < a + 1) = True := by simp; try omega
@[go_sem] theorem lt_fam1 (a b0 : Nat) : (a < a + 1 + b0) = True := by simp; try omega
@[go_sem] theorem lt_fam2 (a b0 b1 : Nat) : (a < a + 1 + b0 + b1) = True := by simp; try omega
@[go_sem] theorem lt_fam3 (a b0 b1 b2 : Nat) : (a < a + 1 + b0 + b1 + b2) = True := by simp; try omega
@[go_sem] theorem lt_fam4 (a b0 b1 b2 b3 : Nat) : (a < a + 1 + b0 + b1 + b2 + b3) = True := by simp; try omega
@[go_sem] theorem lt_fam5 (a b0 b1 b2 b3 b4 : Nat) : (a < a + 1 + b0 + b1 + b2 + b3 + b4) = True := by simp; try omega
@[go_sem] theorem lt_fam6 (a b0 b1 b2 b3 b4 b5 : Nat) : (a < a + 1 + b0 + b1 + b2 + b3 + b4 + b5) = True := by simp; try omega
@[go_sem] theorem lt_fam7 (a b0 b1 b2 b3 b4 b5 b6 : Nat) : (a < a + 1 + b0 + b1 + b2 + b3 + b4 + b5 + b6) = True := by simp; try omega
@[go_sem] theorem lt_fam8 (a b0 b1 b2 b3 b4 b5 b6 b7 : Nat) : (a < a + 1 + b0 + b1 + b2 + b3 + b4 + b5 + b6 + b7) = True := by simp; try omega
@[go_sem] theorem lt_fam9 (a b0 b1 b2 b3 b4 b5 b6 b7 b8 : Nat) : (a < a + 1 + b0 + b1 + b2 + b3 + b4 + b5 + b6 + b7 + b8) = True := by simp; try omega
@[go_sem] theorem lt_fam10 (a b0 b1 b2 b3 b4 b5 b6 b7 b8 b9 : Nat) : (a < a + 1 + b0 + b1 + b2 + b3 + b4 + b5 + b6 + b7 + b8 + b9) = True := by simp; try omega
@[go_sem] theorem lt_fam11 (a b0 b1 b2 b3 b4 b5 b6 b7 b8 b9 b10 : Nat) : (a < a + 1 + b0 + b1 + b2 + b3 + b4 + b5 + b6 + b7 + b8 + b9 + b10) = True := by simp; try omega
@[go_sem] theorem lt_fam12 (a b0 b1 b2 b3 b4 b5 b6 b7 b8 b9 b10 b11 : Nat) : (a < a + 1 + b0 + b1 + b2 + b3 + b4 + b5 + b6 + b7 + b8 + b9 + b10 + b11) = True := by simp; try omega
@[go_sem] theorem lt_old1 (n a b0 : Nat) (h : n < a) : (n < a + b0) = True := by simp; omega
@[go_sem] theorem lt_old2 (n a b0 b1 : Nat) (h : n < a) : (n < a + b0 + b1) = True := by simp; omega
@[go_sem] theorem lt_old3 (n a b0 b1 b2 : Nat) (h : n < a) : (n < a + b0 + b1 + b2) = True := by simp; omega
@[go_sem] theorem lt_old4 (n a b0 b1 b2 b3 : Nat) (h : n < a) : (n < a + b0 + b1 + b2 + b3) = True := by simp; omega
@[go_sem] theorem lt_old5 (n a b0 b1 b2 b3 b4 : Nat) (h : n < a) : (n < a + b0 + b1 + b2 + b3 + b4) = True := by simp; omega
@[go_sem] theorem lt_old6 (n a b0 b1 b2 b3 b4 b5 : Nat) (h : n < a) : (n < a + b0 + b1 + b2 + b3 + b4 + b5) = True := by simp; omega
@[go_sem] theorem lt_old7 (n a b0 b1 b2 b3 b4 b5 b6 : Nat) (h : n < a) : (n < a + b0 + b1 + b2 + b3 + b4 + b5 + b6) = True := by simp; omega
@[go_sem] theorem lt_old8 (n a b0 b1 b2 b3 b4 b5 b6 b7 : Nat) (h : n < a) : (n < a + b0 + b1 + b2 + b3 + b4 + b5 + b6 + b7) = True := by simp; omega
@[go_sem] theorem lt_old9 (n a b0 b1 b2 b3 b4 b5 b6 b7 b8 : Nat) (h : n < a) : (n < a + b0 + b1 + b2 + b3 + b4 + b5 + b6 + b7 + b8) = True := by simp; omega
@[go_sem] theorem lt_old10 (n a b0 b1 b2 b3 b4 b5 b6 b7 b8 b9 : Nat) (h : n < a) : (n < a + b0 + b1 + b2 + b3 + b4 + b5 + b6 + b7 + b8 + b9) = True := by simp; omega
@[go_sem] theorem lt_old11 (n a b0 b1 b2 b3 b4 b5 b6 b7 b8 b9 b10 : Nat) (h : n < a) : (n < a + b0 + b1 + b2 + b3 + b4 + b5 + b6 + b7 + b8 + b9 + b10) = True := by simp; omega
@[go_sem] theorem lt_old12 (n a b0 b1 b2 b3 b4 b5 b6 b7 b8 b9 b10 b11 : Nat) (h : n < a) : (n < a + b0 + b1 + b2 + b3 + b4 + b5 + b6 + b7 + b8 + b9 + b10 + b11) = True := by simp; omega
@[go_sem] theorem lt_old13 (n a b0 b1 b2 b3 b4 b5 b6 b7 b8 b9 b10 b11 b12 : Nat) (h : n < a) : (n < a + b0 + b1 + b2 + b3 + b4 + b5 + b6 + b7 + b8 + b9 + b10 + b11 + b12) = True := by simp; omega
section
variable (w : World) (os os' : Array Obj) (d d' n : Nat) (a : Addr)
@[simp, go_sem] theorem World.size_junk : (w.junk os d).heap.size = w.heap.size + os.size := by simp [World.junk]
@[simp, go_sem] theorem World.tape_junk : (w.junk os d).tape = w.tape := rfl
theorem World.heap_junk {k : Nat} (h : k < w.heap.size) : (w.junk os d).heap[k]? = w.heap[k]? := by
  show (w.heap ++ os)[k]? = _
  rw [Array.getElem?_append_left h]
@[go_sem] theorem World.cell?_junk (i : Nat) (h : n < w.heap.size) : (w.junk os d).cell? ⟨n, i, none⟩ = w.cell? ⟨n, i, none⟩ :=
  World.cell?_of_block (w := w) (World.heap_junk w os d h)
@[go_sem] theorem World.frozen?_junk (i : Nat) (h : n < w.heap.size) : (w.junk os d).frozen? ⟨n, i, none⟩ = w.frozen? ⟨n, i, none⟩ :=
  World.frozen?_of_block (w := w) (World.heap_junk w os d h)
@[go_sem] theorem World.setCell_junk (i : Nat) (v : Value) (hlt : n < w.heap.size) : (w.junk os d).setCell ⟨n, i, none⟩ v = (w.setCell ⟨n, i, none⟩ v).junk os d := by
  simp only [World.setCell, World.junk]
  congr 1
  apply Array.ext_getElem?
  intro j
  simp only [Array.getElem?_modify, Array.getElem?_append, Array.size_modify]
  by_cases hi : n = j
  · subst hi; simp [hlt]
  · simp [hi]
@[simp, go_sem] theorem World.drew_junk : (w.junk os d).drew = w.junk os (d + 1) := rfl
@[simp, go_sem] theorem World.drewN_junk : (w.junk os d).drewN n = w.junk os (d + n) := rfl
@[simp, go_sem] theorem World.junk_drew : w.drew.junk os d = w.junk os d := rfl
@[simp, go_sem] theorem World.junk_drewN : (w.drewN n).junk os d = w.junk os d := rfl
@[simp, go_sem] theorem World.junk_junk : (w.junk os d).junk os' d' = w.junk (os ++ os') d' := by simp [World.junk]
def Junk (w w' : World) : Prop := ∃ os d, w' = w.junk os d
variable {w w' w'' : World}
theorem Junk.refl (w : World) : Junk w w := ⟨#[], w.drawn, by simp [World.junk]⟩
theorem Junk.of_eq (h : w = w') : Junk w w' := h ▸ Junk.refl w
theorem Junk.alloc (h : Junk w w') (o : Obj) : Junk w (w'.alloc o) := by
  obtain ⟨os, d, rfl⟩ := h
  exact ⟨os.push o, d, by simp [World.junk, World.alloc]⟩
theorem Junk.drew (h : Junk w w') : Junk w w'.drew := by
  obtain ⟨os, d, rfl⟩ := h
  exact ⟨os, d + 1, rfl⟩
theorem Junk.drewN (h : Junk w w') (n : Nat) : Junk w (w'.drewN n) := by
  obtain ⟨os, d, rfl⟩ := h
  exact ⟨os, d + n, rfl⟩
theorem Junk.junk (h : Junk w w') (os : Array Obj) (d : Nat) : Junk w (w'.junk os d) := by
  obtain ⟨os', d', rfl⟩ := h
  exact ⟨os' ++ os, d, by simp⟩
theorem Junk.trans (h : Junk w w') (h' : Junk w' w'') : Junk w w'' := by
  obtain ⟨os', d', rfl⟩ := h'
  exact h.junk _ _
theorem Junk.size (h : Junk w w') : w.heap.size ≤ w'.heap.size := by obtain ⟨os, d, rfl⟩ := h; simp
theorem Junk.below (h : Junk w w') {B : Nat} (hB : B ≤ w.heap.size) : RowKit.Below B w w' := by
  obtain ⟨os, d, rfl⟩ := h
  exact ⟨rfl, rfl, rfl, by simp, fun k hk => World.heap_junk w os d (by omega)⟩
theorem Junk.of_below (h : RowKit.Below w.heap.size w w') : Junk w w' := by
  refine ⟨w'.heap.extract w.heap.size w'.heap.size, w'.drawn, ?_⟩
  have hh : w'.heap = w.heap ++ w'.heap.extract w.heap.size w'.heap.size := by
    apply Array.ext_getElem?
    intro i
    by_cases hi : i < w.heap.size
    · rw [Array.getElem?_append_left hi, h.block i hi]
    · rw [Array.getElem?_append_right (by omega), Array.getElem?_extract]
      have hs := h.size
      by_cases hj : i < w'.heap.size
      · rw [if_pos (by omega)]; congr 1; omega
      · rw [if_neg (by omega)]; simp; omega
  have h1 := h.os
  have h2 := h.tape
  have h3 := h.output
  cases w'
  cases w
  simp only [World.junk, World.mk.injEq] at *
  exact ⟨hh, h2, trivial, h1, h3⟩
theorem Junk.pair (h : Junk w w') : ∃ x : Jk, w' = w.junk x.os x.d := let ⟨os, d, h⟩ := h; ⟨⟨os, d⟩, h⟩
theorem wp_region_junk {P : Program} {id : Nat} {Q : Exit → Act → World → Prop} {a : Act} {l : List Oper} (hm : P.follows .mixedOrders = true) (hB : Region.lexB .any l.toArray = true)
    (h : wpQuiet P l.toArray (fun w' => ∃ x : Jk, w' = w.junk x.os x.d) (fun a' => ∀ w', (∃ x : Jk, w' = w.junk x.os x.d) → Q .normal a' w') l a) : (Code.region id l.toArray true).wp P Q a w :=
  wp_region_quiet (C := fun w' => ∃ x : Jk, w' = w.junk x.os x.d) hm hB (Junk.refl w).drew.pair (by simpa using h)
theorem Calls.junk_of {P : Program} {f : FuncId} {args : Array Value} {os : Array Obj} {d : Nat} {v : Value}
    (h : Calls P f args (w.junk os d) fun e w' => e = .returned v ∧ Junk (w.junk os d) w') : Calls P f args (w.junk os d) fun e w'' => e = .returned v ∧ ∃ x : Jk, w'' = w.junk x.os x.d :=
  h.mono fun _ _ ⟨he, hm⟩ => ⟨he, (((Junk.refl w).junk os d).trans hm).pair⟩
theorem Calls.junk_of_same {P : Program} {f : FuncId} {args : Array Value} {v : Value}
    (h : Calls P f args w fun e w' => e = .returned v ∧ w = w') : Calls P f args w fun e w'' => e = .returned v ∧ Junk w w'' :=
  h.mono fun _ _ ⟨he, hm⟩ => ⟨he, Junk.of_eq hm⟩
end
class JunkC (w w' : World) : Prop where
  out : Junk w w'
class Pre (a b : Array Obj) : Prop where
  out : ∃ c, b = a ++ c
theorem jkc {w w' : World} [h : JunkC w w'] : Junk w w' := h.out
instance Pre.same (a : Array Obj) : Pre a a := ⟨#[], by simp⟩
instance Pre.more (a b : Array Obj) : Pre a (a ++ b) := ⟨b, rfl⟩
instance Pre.both (a b c : Array Obj) [h : Pre b c] : Pre (a ++ b) (a ++ c) := ⟨by obtain ⟨x, rfl⟩ := h.out; exact ⟨x, by simp⟩⟩
instance (priority := high) Pre.rotL (a b c x : Array Obj) [h : Pre (a ++ (b ++ c)) x] : Pre (a ++ b ++ c) x := ⟨by rw [Array.append_assoc]; exact h.out⟩
instance (priority := high) Pre.rotR (a b c x : Array Obj) [h : Pre x (a ++ (b ++ c))] : Pre x (a ++ b ++ c) := ⟨by rw [Array.append_assoc]; exact h.out⟩
section
variable (w w' : World) (a b : Array Obj) (d e : Nat)
instance JunkC.same : JunkC w w := ⟨Junk.refl w⟩
instance JunkC.alloc (o : Obj) [h : JunkC w w'] : JunkC w (w'.alloc o) := ⟨h.out.alloc o⟩
instance JunkC.drew [h : JunkC w w'] : JunkC w w'.drew := ⟨h.out.drew⟩
instance JunkC.drewN (n : Nat) [h : JunkC w w'] : JunkC w (w'.drewN n) := ⟨h.out.drewN n⟩
instance JunkC.junk [h : JunkC w w'] : JunkC w (w'.junk a d) := ⟨h.out.junk a d⟩
instance JunkC.app [h : Pre a b] : JunkC (w.junk a d) (w.junk b e) := ⟨by obtain ⟨x, rfl⟩ := h.out; exact ⟨x, e, by simp⟩⟩
instance JunkC.merR [h : JunkC w' (w.junk (a ++ b) e)] : JunkC w' ((w.junk a d).junk b e) := ⟨by rw [World.junk_junk]; exact h.out⟩
instance JunkC.merL [h : JunkC (w.junk (a ++ b) e) w'] : JunkC ((w.junk a d).junk b e) w' := ⟨by rw [World.junk_junk]; exact h.out⟩
instance JunkC.dropR [h : JunkC w' (w.junk a d)] : JunkC w' (w.drew.junk a d) := ⟨h.out⟩
instance JunkC.dropL [h : JunkC (w.junk a d) w'] : JunkC (w.drew.junk a d) w' := ⟨h.out⟩
end
class QC (W : World) (F : Jk → World) : Prop where
  out : ∀ w', Junk W w' → ∃ x, w' = F x
instance QC.one (w W : World) [h : JunkC w W] : QC W (fun x => w.junk x.os x.d) := ⟨fun _ hj => (h.out.trans hj).pair⟩
instance QC.two (w : World) (a os : Array Obj) (d : Nat) : QC (w.junk (a ++ os) d) (fun x => w.junk (a ++ x.os) x.d) := ⟨fun _ ⟨os', d', h⟩ => ⟨⟨os ++ os', d'⟩, by rw [h]; simp⟩⟩
instance QC.three (w : World) (a b os : Array Obj) (d : Nat) : QC (w.junk (a ++ (b ++ os)) d) (fun x => w.junk (a ++ (b ++ x.os)) x.d) := ⟨fun _ ⟨os', d', h⟩ => ⟨⟨os ++ os', d'⟩, by rw [h]; simp⟩⟩
instance QC.four (w : World) (a b c os : Array Obj) (d : Nat) : QC (w.junk (a ++ (b ++ (c ++ os))) d) (fun x => w.junk (a ++ (b ++ (c ++ x.os))) x.d) := ⟨fun _ ⟨os', d', h⟩ => ⟨⟨os ++ os', d'⟩, by rw [h]; simp⟩⟩
instance QC.five (w : World) (a b c e os : Array Obj) (d : Nat) : QC (w.junk (a ++ (b ++ (c ++ (e ++ os)))) d) (fun x => w.junk (a ++ (b ++ (c ++ (e ++ x.os)))) x.d) := ⟨fun _ ⟨os', d', h⟩ => ⟨⟨os ++ os', d'⟩, by rw [h]; simp⟩⟩
theorem Calls.jc {P : Program} {f : FuncId} {args : Array Value} {W : World} {F : Jk → World} {v : Value}
    (h : Calls P f args W fun e w' => e = .returned v ∧ Junk W w') (hc : QC W F := by infer_instance) : Calls P f args W fun e w'' => e = .returned v ∧ ∃ x : Jk, w'' = F x :=
  h.mono fun _ _ ⟨he, hm⟩ => ⟨he, hc.out _ hm⟩
def SlAt (W : World) (oa : Option Addr) (len c : Nat) (rows : Nat → List Value) : Prop :=
  ∀ i, i < len → ∃ b off, oa = some ⟨b, off, none⟩ ∧ b < W.heap.size ∧ ∀ j v, (rows i)[j]? = some v → W.cell? ⟨b, off + i * c + j, none⟩ = some v
theorem SlAt.mono {W W' : World} {oa : Option Addr} {len c : Nat} {rows : Nat → List Value} (h : SlAt W oa len c rows) (hb : RowKit.Below W.heap.size W W') : SlAt W' oa len c rows := fun i hi => by
  obtain ⟨b, off, he, hlt, hc⟩ := h i hi
  exact ⟨b, off, he, Nat.lt_of_lt_of_le hlt hb.size, fun j v hv => (hb.cell (p := ⟨b, _, none⟩) hlt).trans (hc j v hv)⟩
theorem SlAt.on {W W' : World} {oa : Option Addr} {len c : Nat} {rows : Nat → List Value} (h : SlAt W oa len c rows) (hj : Junk W W') : SlAt W' oa len c rows := h.mono (hj.below (Nat.le_refl _))
def IntsAt (W : World) (oa : Option Addr) (len : Nat) (k : IntKind) (xs : Nat → Int) : Prop :=
  ∀ i, i < len → ∃ b off, oa = some ⟨b, off, none⟩ ∧ b < W.heap.size ∧ W.cell? ⟨b, off + i, none⟩ = some (.int k (xs i))
theorem IntsAt.mono {W W' : World} {oa : Option Addr} {len : Nat} {k : IntKind} {xs : Nat → Int} (h : IntsAt W oa len k xs) (hb : RowKit.Below W.heap.size W W') : IntsAt W' oa len k xs := fun i hi => by
  obtain ⟨b, off, he, hlt, hc⟩ := h i hi
  exact ⟨b, off, he, Nat.lt_of_lt_of_le hlt hb.size, (hb.cell (p := ⟨b, _, none⟩) hlt).trans hc⟩
theorem IntsAt.on {W W' : World} {oa : Option Addr} {len : Nat} {k : IntKind} {xs : Nat → Int} (h : IntsAt W oa len k xs) (hj : Junk W W') : IntsAt W' oa len k xs := h.mono (hj.below (Nat.le_refl _))
structure Bts (W : World) (oa : Option Addr) (l c : Nat) (xs : Nat → Int) : Prop where
  at_ : IntsAt W oa l .u8 xs
  byte : ∀ i, i < l → 0 ≤ xs i ∧ xs i ≤ 255
  nil : oa = none → l = 0 ∧ c = 0
  le : l ≤ c
  cap : c ≤ maxLen
theorem Bts.on {W W' : World} {oa : Option Addr} {l c : Nat} {xs : Nat → Int} (h : Bts W oa l c xs) (hj : Junk W W') : Bts W' oa l c xs := ⟨h.at_.on hj, h.byte, h.nil, h.le, h.cap⟩
theorem Junk.setCell {w w' : World} (h : Junk w w') {a : Addr} (ha : w.heap.size ≤ a.block) (v : Value) : Junk w (w'.setCell a v) := Junk.of_below ((h.below (Nat.le_refl _)).setCell ha v)
theorem ret_bool {a b : Bool} (h : a = b) : Ending.returned (.bool a) = .returned (.bool b) := by rw [h]
theorem ret_int {k : IntKind} {a b : Int} (h : a = b) : Ending.returned (.int k a) = .returned (.int k b) := by rw [h]
end Go
namespace Go
open Go.ChangeShapes Go.WideShapes Go.ChangeAt Go.RowKit Go.WideMaps Go.WideElems Go.Deep
section
variable {P : Program} {W : World} {base : Nat} {t e : TypeId}
def Cells (P : Program) (W : World) (t : TypeId) (cs : List Value) : Prop :=
  ∃ (H : Type) (enc : TypeId × Value → H) (n : Nat) (y : DataW H × List MemPlace), DataW.trod enc P W 0 (fun _ => true) true n t cs = some y
def Arg (P : Program) (W : World) (base : Nat) (t : TypeId) (v : Value) : Prop := Value.okWide P W .any base t v ∧ Cells P W t v.cells.toList
def Args (P : Program) (W : World) (base : Nat) : List TypeId → List Value → Prop
  | [], [] => True
  | t :: ts, v :: vs => Arg P W base t v ∧ Args P W base ts vs
  | _, _ => False
theorem args_of {H : Type} {enc : TypeId × Value → H} : ∀ {ts : List TypeId} {vs : List Value} {ds : List (DataW H)} {ps : List MemPlace},
    (∀ (j : Nat) t v, ts[j]? = some t → vs[j]? = some v → Value.okWide P W .any base t v) → DataW.TrodAll enc P W 0 (fun _ => true) true ts vs ds ps → Args P W base ts vs
  | [], vs, ds, ps, _, h => by obtain ⟨rfl, _, _⟩ := trodAll_nil h; exact trivial
  | t :: ts, vs, ds, ps, hv, h => by
    obtain ⟨v, vs', d, ds', p, q, rfl, rfl, rfl, h0, h1⟩ := trodAll_cons h
    obtain ⟨n, hn⟩ := h0
    exact ⟨⟨hv 0 t v rfl rfl, H, enc, n, _, hn⟩, args_of (fun j t v ht hvv => hv (j + 1) t v (by simpa using ht) (by simpa using hvv)) h1⟩
theorem args_nil {vs : List Value} (h : Args P W base [] vs) : vs = [] := by cases vs; rfl; exact h.elim
theorem args_cons {ts : List TypeId} {vs : List Value} (h : Args P W base (t :: ts) vs) : ∃ v vs', vs = v :: vs' ∧ Arg P W base t v ∧ Args P W base ts vs' := by
  cases vs with
  | nil => exact h.elim
  | cons v vs => exact ⟨v, vs, rfl, h.1, h.2⟩
theorem trodAll_length {H : Type} {enc : TypeId × Value → H} : ∀ {ts : List TypeId} {vs : List Value} {ds : List (DataW H)} {ps : List MemPlace}, DataW.TrodAll enc P W 0 (fun _ => true) true ts vs ds ps → ds.length = ts.length
  | [], vs, ds, ps, h => by obtain ⟨_, rfl, _⟩ := trodAll_nil h; rfl
  | t :: ts, vs, ds, ps, h => by
    obtain ⟨v, vs', d, ds', p, q, rfl, rfl, rfl, h0, h1⟩ := trodAll_cons h
    simp [trodAll_length h1]
theorem trodAll_stays {H : Type} {enc : TypeId × Value → H} (hl : laidOutB P = true) {W' : World} (hb : Below W.heap.size W W') : ∀ {ts : List TypeId} {vs : List Value} {ds : List (DataW H)} {ps : List MemPlace},
    ts.all (fun t => P.readableRec t && decide (t < P.types.size)) = true → DataW.TrodAll enc P W 0 (fun _ => true) true ts vs ds ps → (∀ x ∈ ps, x.block < W.heap.size) →
    DataW.TrodAll enc P W' 0 (fun b => decide (b < W.heap.size)) true ts vs ds ps
  | [], vs, ds, ps, _, h, _ => by obtain ⟨rfl, rfl, rfl⟩ := trodAll_nil h; rfl
  | t :: ts, vs, ds, ps, ht, h, hp => by
    obtain ⟨v, vs', d, ds', p, q, rfl, rfl, rfl, h0, h1⟩ := trodAll_cons h
    simp only [List.all_cons, Bool.and_eq_true, decide_eq_true_eq] at ht
    exact ⟨p, q, Below.trod hl ht.1.1 ht.1.2 h0 hb (fun x hx => hp x (by simp [hx])), trodAll_stays hl hb (by simpa using ht.2) h1 (fun x hx => hp x (by simp [hx])), rfl⟩
theorem post_true {H : Type} {enc : TypeId × Value → H} {f : Func} {s : ChangeSpec} {tb : TypeId} (hl : laidOutB P = true) (hb : P.underlying tb = some .bool) (hr : f.resultTypes = #[tb])
    (hts : f.params.toList.all (fun t => P.readableRec t && decide (t < P.types.size)) = true) (hv : s.vars = []) {W' : World} {args : Array Value} {ds gs : List (DataW H)} {before : List MemPlace}
    (hW : DataW.Whole enc P f.params.toList s.vars false W args.toList ds gs before)
    (hs : gs = [] → ds.length = f.params.toList.length → (s.fn H (ds ++ gs)).results = [.lit (.bool true)] ∧ (s.fn H (ds ++ gs)).args = ds ∧ (s.fn H (ds ++ gs)).vars = []) (hj : Junk W W') :
    s.post enc P f false true false false W args (.bool true) W' := by
  have hW' := hW
  obtain ⟨p, q, hA, hV, rfl, hfz, _⟩ := hW
  rw [hv] at hV
  obtain ⟨rfl, rfl⟩ := trodVars_none hV
  obtain ⟨h1, h2, h3⟩ := hs rfl (trodAll_length hA)
  have hbl := hj.below (Nat.le_refl _)
  refine ⟨ds, [], p ++ [], [], p, [], hW', ?_, ?_, ?_, World.keptBut_mono (fun _ f => f.elim) (hbl.frame (fun _ => False)), fun h => by cases h⟩
  · rw [h1, hr]; exact trodAll_mk1 (shut_bool hb true)
  · rw [h2]; exact trodAll_stays hl hbl hts hA (fun x hx => hW'.lt x (by simp [hx]))
  · rw [h3, hv]; rfl

/-! ### What the cells of a type are -/
theorem Cells.bool (ht : P.underlying t = some .bool) {cs : List Value} (h : Cells P W t cs) : ∃ b, cs = [.bool b] := by
  obtain ⟨H, enc, n, y, h⟩ := h
  obtain ⟨b, hb, _⟩ := DataW.trod_bool ht h
  exact ⟨b, hb⟩
theorem Cells.int {k : IntKind} (ht : P.underlying t = some (.int k)) {cs : List Value} (h : Cells P W t cs) : ∃ n, cs = [.int k n] ∧ (Lit.int k n).wf = true := by
  obtain ⟨H, enc, n, y, h⟩ := h
  obtain ⟨m, hm, _, hw⟩ := DataW.trod_int ht h
  exact ⟨m, hm, hw⟩
theorem Cells.struct {fs : Array Field} (ht : P.underlying t = some (.struct fs)) {cs : List Value} (h : Cells P W t cs) :
    cs.length = P.cellsOf t ∧ ∀ (i : Nat) (f : Field), fs[i]? = some f → Cells P W f.type ((cs.drop f.offset).take (P.cellsOf f.type)) := by
  obtain ⟨H, enc, n, y, h⟩ := h
  obtain ⟨xs, m, _, _, hlen, hxl, hf⟩ := DataW.trod_struct ht h
  refine ⟨hlen, fun i f hi => ?_⟩
  have hlt : i < fs.size := (Array.getElem?_eq_some_iff.1 hi).1
  have h1 := hf i f hi
  rw [List.getElem?_eq_getElem (by omega)] at h1
  exact ⟨H, enc, m, _, h1⟩
theorem Cells.slice (ht : P.underlying t = some (.slice e)) (hpos : 0 < P.cellsOf e) {cs : List Value} (h : Cells P W t cs) :
    ∃ (oa : Option Addr) (len cap : Nat) (rows : Nat → List Value), cs = [.slice oa len cap] ∧ len ≤ cap ∧ cap ≤ maxLen ∧ SlAt W oa len (P.cellsOf e) rows ∧
      ∀ i, i < len → (rows i).length = P.cellsOf e ∧ Cells P W e (rows i) := by
  obtain ⟨H, enc, n, y, h⟩ := h
  rcases open_slice ht h with ⟨hcs, _⟩ | ⟨a, len, cap, m, n, D, Pl, hcs, _, hl, hm, hmm, _, hi⟩
  · exact ⟨none, 0, 0, fun _ => [], hcs, Nat.le_refl _, Nat.zero_le _, fun i hi => by omega, fun i hi => by omega⟩
  · have hex : ∀ i, i < len → ∃ cs', W.cells? 0 (a.add (i * P.cellsOf e)) (P.cellsOf e) = some cs' ∧ DataW.trod enc P W 0 (fun _ => true) true n e cs' = some (D i, Pl i) := fun i hi' => hi i (by simp at hmm; omega)
    have hall : ∀ i, i < len → ∃ cs' : List Value, cs'.length = P.cellsOf e ∧ (∀ j, j < P.cellsOf e → W.cell? (a.add (i * P.cellsOf e + j)) = cs'[j]?) ∧ Cells P W e cs' := fun i hi' => by
      obtain ⟨cs', h1, h2⟩ := hex i hi'
      obtain ⟨_, hlen, hc⟩ := World.cells?_some h1
      exact ⟨cs', hlen, fun j hj => by rw [← Go.Deep.add_add]; exact hc j hj, H, enc, n, _, h2⟩
    obtain ⟨rows, hr⟩ : ∃ rows : Nat → List Value, ∀ i, i < len → (rows i).length = P.cellsOf e ∧ (∀ j, j < P.cellsOf e → W.cell? (a.add (i * P.cellsOf e + j)) = (rows i)[j]?) ∧ Cells P W e (rows i) :=
      ⟨fun i => if h : i < len then (hall i h).choose else [], fun i hi' => by simp only [hi', dif_pos]; exact (hall i hi').choose_spec⟩
    refine ⟨some a, len, cap, rows, hcs, hl, hm, fun i hi' => ?_, fun i hi' => ⟨(hr i hi').1, (hr i hi').2.2⟩⟩
    obtain ⟨hl0, hc0, _⟩ := hr 0 (by omega)
    have h00 := hc0 0 hpos
    rw [List.getElem?_eq_getElem (by omega)] at h00
    simp only [Nat.zero_mul, Nat.add_zero, Addr.add_zero'] at h00
    have hsp : a.spot = none := by
      cases hs : a.spot with
      | none => rfl
      | some x => simp only [World.cell?, hs, Option.isSome_some, if_true] at h00; split at h00 <;> cases h00
    obtain ⟨ab, ao, asp⟩ := a
    simp only at hsp
    subst hsp
    refine ⟨ab, ao, rfl, World.block_lt_of_cell? W _ h00, fun j v hv => ?_⟩
    obtain ⟨hl1, hc1, _⟩ := hr i hi'
    have hj : j < P.cellsOf e := by have := (List.getElem?_eq_some_iff.1 hv).1; omega
    have := hc1 j hj
    rw [hv, Addr.add_lit, ← Nat.add_assoc] at this
    exact this
theorem Cells.ints {k : IntKind} (ht : P.underlying t = some (.slice e)) (he : P.underlying e = some (.int k)) (hone : P.cellsOf e = 1) {cs : List Value} (h : Cells P W t cs) :
    ∃ (oa : Option Addr) (len cap : Nat) (xs : Nat → Int), cs = [.slice oa len cap] ∧ len ≤ cap ∧ cap ≤ maxLen ∧ IntsAt W oa len k xs ∧ ∀ i, i < len → (Lit.int k (xs i)).wf = true := by
  obtain ⟨oa, len, cap, rows, hcs, hl, hm, hS, hr⟩ := h.slice ht (by omega)
  have hx : ∀ i, i < len → ∃ n, rows i = [.int k n] ∧ (Lit.int k n).wf = true := fun i hi => (hr i hi).2.int he
  obtain ⟨xs, hxs⟩ : ∃ xs : Nat → Int, ∀ i, i < len → rows i = [.int k (xs i)] ∧ (Lit.int k (xs i)).wf = true :=
    ⟨fun i => if h : i < len then (hx i h).choose else 0, fun i hi => by simp only [hi, dif_pos]; exact (hx i hi).choose_spec⟩
  refine ⟨oa, len, cap, xs, hcs, hl, hm, fun i hi => ?_, fun i hi => (hxs i hi).2⟩
  obtain ⟨b, off, ho, hlt, hc⟩ := hS i hi
  refine ⟨b, off, ho, hlt, ?_⟩
  have := hc 0 (.int k (xs i)) (by rw [(hxs i hi).1]; rfl)
  rw [hone] at this
  simpa using this

theorem Arg.bool (ht : P.underlying t = some .bool) {v : Value} (h : Arg P W base t v) : ∃ b, v = .bool b := okWide_bool ht h.1
theorem Arg.int {k : IntKind} (ht : P.underlying t = some (.int k)) {v : Value} (h : Arg P W base t v) : ∃ n, v = .int k n ∧ (Lit.int k n).wf = true := by
  obtain ⟨n, rfl⟩ := okWide_int ht h.1
  obtain ⟨m, hm, hw⟩ := h.2.int ht
  simp [Value.cells] at hm
  exact ⟨n, rfl, hm ▸ hw⟩
theorem Arg.struct {fs : Array Field} (ht : P.underlying t = some (.struct fs)) {v : Value} (h : Arg P W base t v) : ∃ cs : List Value, v = .agg cs.toArray ∧ Cells P W t cs := by
  obtain ⟨cs, rfl, _⟩ := okWide_struct ht h.1
  exact ⟨cs.toList, rfl, h.2⟩
theorem Arg.slice (ht : P.underlying t = some (.slice e)) {v : Value} (h : Arg P W base t v) : Cells P W t [v] := by
  obtain ⟨a, len, cap, rfl⟩ := okWide_slice ht h.1
  exact h.2
end
end Go
namespace Go
section
variable {P : Program} {ops : Array Oper} {md : Region.Mode} {D : World → Prop}
def NoExit : Exit → Act → World → Prop := fun _ _ _ => False
theorem Oper.wp_of_noExit {o : Oper} {a : Act} {w : World} {K : Act → World → Prop} {Q : Exit → Act → World → Prop} (h : o.wp P a w K NoExit) : o.wp P a w K Q := by
  unfold Oper.wp at *
  generalize (execOp a.eval o).run P w = r at *
  cases r with
  | ok n w' =>
    cases n with
    | enter f args =>
      simp only [Oper.upon] at h ⊢
      refine h.mono fun e w'' he => ?_
      cases e with
      | returned v => exact he
      | panicked c => exact he.elim
      | outgrown => obtain ⟨_, _, h⟩ := he; exact h.elim
    | value v => exact h
    | skip => exact h
    | defer d => exact h
    | row r args => exact h
    | _ => exact h.elim
  | halt x w' => cases x <;> exact h.elim
theorem Oper.wp_monoN {o : Oper} {a : Act} {w : World} {K K' : Act → World → Prop} (hk : ∀ a w, K a w → K' a w) (h : o.wp P a w K NoExit) : o.wp P a w K' NoExit := by
  unfold Oper.wp at *
  generalize (execOp a.eval o).run P w = r at *
  cases r with
  | ok n w' =>
    cases n with
    | enter f args =>
      simp only [Oper.upon] at h ⊢
      refine h.mono fun e w'' he => ?_
      cases e with
      | returned v => exact hk _ _ he
      | panicked c => exact he.elim
      | outgrown => obtain ⟨_, _, h⟩ := he; exact h.elim
    | value v => exact hk _ _ h
    | skip => exact hk _ _ h
    | defer d => exact hk _ _ h
    | row r args => exact Rows.mono h fun _ _ h => hk _ _ h
    | _ => exact h.elim
  | halt x w' => cases x <;> exact h.elim
def wpE (P : Program) (ops : Array Oper) (i : Nat) (K : Act → World → Prop) (a : Act) (w : World) : Prop :=
  match ops[i]? with
  | none => K a w
  | some o => if Region.wanted o (yielded ops a.tmps) then o.wp P a w K NoExit else K (a.put o.dst undef) w
theorem wpE_mono {i : Nat} {a : Act} {w : World} {K K' : Act → World → Prop} (hk : ∀ a w, K a w → K' a w) (h : wpE P ops i K a w) : wpE P ops i K' a w := by
  unfold wpE at *
  split
  · exact hk _ _ (by simpa [*] using h)
  · rename_i o ho
    simp only [ho] at h
    split
    · rename_i hw; simp only [hw, if_true] at h; exact Oper.wp_monoN hk h
    · rename_i hw; simp only [hw] at h; exact hk _ _ h
theorem wpOp_of_wpE {i : Nat} {a : Act} {w : World} {K : Act → World → Prop} {Q : Exit → Act → World → Prop} (h : wpE P ops i K a w) : wpOp P ops Q i K a w := by
  unfold wpE at h
  unfold wpOp
  split
  · rename_i ho; simpa [ho] using h
  · rename_i o ho
    simp only [ho] at h
    split
    · rename_i hw; simp only [hw, if_true] at h; exact .inl (Oper.wp_of_noExit h)
    · rename_i hw; simp only [hw] at h; exact h
def wpAnyD (P : Program) (md : Region.Mode) (ops : Array Oper) (D : World → Prop) (Q : Act → World → Prop) : Nat → Array Bool → Act → World → Prop
  | 0, listed, a, w => Region.ready md ops listed = [] ∧ ∀ w', Junk w w' → Q a w'
  | f + 1, listed, a, w => (Region.ready md ops listed = [] → ∀ w', Junk w w' → Q a w') ∧
    ∀ i ∈ Region.ready md ops listed, ∀ w', Junk w w' → wpE P ops i (fun a' w'' => D w'' ∧ wpAnyD P md ops D Q f (listed.setIfInBounds i true) a' w'') a w'
theorem wpAnyD_junk {Q : Act → World → Prop} : ∀ {f : Nat} {listed : Array Bool} {a : Act} {w w' : World}, Junk w w' → wpAnyD P md ops D Q f listed a w → wpAnyD P md ops D Q f listed a w'
  | 0, _, _, _, _, hj, h => ⟨h.1, fun _ h' => h.2 _ (hj.trans h')⟩
  | _ + 1, _, _, _, _, hj, h => ⟨fun h0 _ h' => h.1 h0 _ (hj.trans h'), fun i hi _ h' => h.2 i hi _ (hj.trans h')⟩
theorem wpAny_of_D {Q : Act → World → Prop} {Q' : Exit → Act → World → Prop} (hQ : ∀ a w, Q a w → Q' .normal a w) : ∀ (f : Nat) (listed : Array Bool) (a : Act) (w : World), wpAnyD P md ops D Q f listed a w → wpAny P md ops Q' f listed a w
  | 0, _, _, _, h => ⟨h.1, hQ _ _ (h.2 _ (Junk.refl _))⟩
  | f + 1, _, _, _, h => ⟨fun h0 => hQ _ _ (h.1 h0 _ (Junk.refl _)), fun i hi => wpOp_mono (fun a' w' h' => wpAny_of_D hQ f _ a' w' h'.2) (wpOp_of_wpE (h.2 i hi _ (Junk.refl _)))⟩
def YieldsJ (P : Program) (ops : Array Oper) (D : World → Prop) (o : Oper) (v : Value) (a : Act) : Prop :=
  (Region.wanted o (yielded ops a.tmps) = true ∧ ∀ w, D w → o.quietAt P a (Junk w) w v) ∨ (Region.wanted o (yielded ops a.tmps) = false ∧ v = undef)
theorem YieldsJ.of_same {o : Oper} {v : Value} {a a' : Act} (hy : YieldsJ P ops D o v a) (he : execOp a'.eval o = execOp a.eval o)
    (hw : Region.wanted o (yielded ops a'.tmps) = Region.wanted o (yielded ops a.tmps)) : YieldsJ P ops D o v a' := by
  unfold YieldsJ Oper.quietAt at *
  rw [he, hw]
  exact hy
theorem YieldsJ.wpE {i : Nat} {o : Oper} {v : Value} {a : Act} {w : World} {K : Act → World → Prop} (hi : ops[i]? = some o) (hy : YieldsJ P ops D o v a) (hD : D w) (h : ∀ w', Junk w w' → K (a.put o.dst v) w') : wpE P ops i K a w := by
  unfold Go.wpE
  simp only [hi]
  rcases hy with ⟨hw, hv⟩ | ⟨hw, rfl⟩
  · simp only [hw, if_true]
    have h3 := hv w hD
    unfold Oper.quietAt at h3
    unfold Oper.wp
    generalize (execOp a.eval o).run P w = r at *
    cases r with
    | ok n w' =>
      cases n <;> simp only [Oper.quietUpon] at h3 <;> simp only [Oper.upon]
      case value u => obtain ⟨e1, e2⟩ := h3; rw [e1, e2]; exact h _ (Junk.refl _)
      case skip => obtain ⟨e1, e2⟩ := h3; rw [e1, ← e2]; exact h _ (Junk.refl _)
      case enter f args =>
        obtain ⟨e1, hc⟩ := h3
        rw [e1]
        exact hc.mono fun e w'' ⟨he, hw''⟩ => by subst he; exact h _ hw''
    | halt x w' => simp only [Oper.quietUpon] at h3
  · simp only [hw, Bool.false_eq_true, if_false]
    exact h _ (Junk.refl _)
theorem wpE_put {j : Nat} {oi oj : Oper} {v : Value} (hj : ops[j]? = some oj) (hap : oi.apart ops oj = true) (hsi : ∀ cs b, oi.op ≠ .select cs b) (hsj : ∀ cs b, oj.op ≠ .select cs b)
    {K : Act → World → Prop} {a : Act} {w : World} (hy : YieldsJ P ops D oi v a) (h : wpE P ops j K (a.put oi.dst v) w) : wpE P ops j (fun a' w' => YieldsJ P ops D oi v a' ∧ K (a'.put oi.dst v) w') a w := by
  obtain ⟨h1, h2, h3⟩ := Oper.apart_spec hap
  have keep : ∀ (a : Act), YieldsJ P ops D oi v a → ∀ u, YieldsJ P ops D oi v (a.put oj.dst u) := fun a hy u => hy.of_same (execOp_put oi hsi a oj.dst u h3) (wanted_put oi a oj.dst u h3)
  unfold wpE at *
  simp only [hj] at *
  rw [wanted_put oj a oi.dst v h1] at h
  split
  · rename_i hw
    simp only [hw, if_true] at h
    unfold Oper.wp at *
    rw [execOp_put oj hsj a oi.dst v h1] at h
    generalize (execOp a.eval oj).run P w = r at *
    cases r with
    | ok n w' =>
      cases n with
      | enter f args =>
        simp only [Oper.upon] at h ⊢
        refine h.mono fun e w'' he => ?_
        cases e with
        | returned u => exact ⟨keep a hy u, by rw [← Act.put_comm a v u h2]; exact he⟩
        | panicked c => exact he.elim
        | outgrown => obtain ⟨_, _, h⟩ := he; exact h.elim
      | value u => exact ⟨keep a hy u, by rw [← Act.put_comm a v u h2]; exact h⟩
      | skip => exact ⟨keep a hy _, by rw [← Act.put_comm a v undef h2]; exact h⟩
      | defer d =>
        simp only [Oper.upon] at h ⊢
        have hy2 : YieldsJ P ops D oi v { a with defers := d :: a.defers } := hy
        refine ⟨keep _ hy2 _, ?_⟩
        rw [← Act.put_comm _ v undef h2]
        cases hd : oi.dst <;> simpa [Act.put, hd] using h
      | row r args => exact Rows.mono h fun u w'' he => ⟨keep a hy u, by rw [← Act.put_comm a v u h2]; exact he⟩
      | _ => exact h.elim
    | halt x w' => cases x <;> exact h.elim
  · rename_i hw
    simp only [hw] at h
    exact ⟨keep a hy _, by rw [← Act.put_comm a v undef h2]; exact h⟩
theorem wpAnyD_first (hcl : ∀ w w', D w → Junk w w' → D w') {Q : Act → World → Prop} {i : Nat} {oi : Oper} {v : Value} (hi : ops[i]? = some oi) (hsel : ∀ (j : Nat) (o : Oper) cs b, ops[j]? = some o → o.op ≠ .select cs b) :
    ∀ (f : Nat) (listed : Array Bool) (a : Act) (w : World),
      (∀ j oj, ops[j]? = some oj → j ≠ i → listed.getD j true = false → (∀ e ∈ oj.after, Region.binds md e = true → e.on ≠ i) → oi.apart ops oj = true) →
      i ∈ Region.ready md ops listed → YieldsJ P ops D oi v a → D w →
      wpAnyD P md ops D Q f (listed.setIfInBounds i true) (a.put oi.dst v) w → wpAnyD P md ops D Q (f + 1) listed a w := by
  intro f
  induction f with
  | zero =>
    intro listed a w _ hr hy hD H
    refine ⟨fun h => (by rw [h] at hr; cases hr), fun j hj w' hw' => ?_⟩
    by_cases hji : j = i
    · subst hji; exact hy.wpE hi (hcl _ _ hD hw') fun w'' hw'' => ⟨hcl _ _ (hcl _ _ hD hw') hw'', wpAnyD_junk (hw'.trans hw'') H⟩
    · have := ready_mono hj hji
      rw [H.1] at this
      cases this
  | succ f ih =>
    intro listed a w hfree hr hy hD H
    refine ⟨fun h => (by rw [h] at hr; cases hr), fun j hj w' hw' => ?_⟩
    by_cases hji : j = i
    · subst hji; exact hy.wpE hi (hcl _ _ hD hw') fun w'' hw'' => ⟨hcl _ _ (hcl _ _ hD hw') hw'', wpAnyD_junk (hw'.trans hw'') H⟩
    · have h1 := H.2 j (ready_mono hj hji) w' hw'
      obtain ⟨hjun, oj, hoj, hall⟩ := mem_ready.1 hj
      have hnot : ∀ e ∈ oj.after, Region.binds md e = true → e.on ≠ i := fun e he hb heq => by
        have h1 := hall e he hb
        have h0 := (mem_ready.1 hr).1
        rw [heq] at h1
        rcases Nat.lt_or_ge i listed.size with h' | h'
        · simp [h'] at h0 h1; rw [h0] at h1; cases h1
        · simp [Array.getElem?_eq_none h'] at h1
      have h2 := wpE_put hoj (hfree j oj hoj hji hjun hnot) (fun cs b => hsel i oi cs b hi) (fun cs b => hsel j oj cs b hoj) hy h1
      have hfree' : ∀ k ok, ops[k]? = some ok → k ≠ i → (listed.setIfInBounds j true).getD k true = false →
          (∀ e ∈ ok.after, Region.binds md e = true → e.on ≠ i) → oi.apart ops ok = true := fun k ok hk hki hun hno => by
        refine hfree k ok hk hki ?_ hno
        by_cases hjk : j = k
        · subst hjk; exact hjun
        · rw [getD_set_ne true hjk] at hun; exact hun
      refine wpE_mono (fun a' w'' h3 => ⟨h3.2.1, ih (listed.setIfInBounds j true) a' w'' hfree' (ready_mono hr (Ne.symm hji)) h3.1 h3.2.1 ?_⟩) h2
      rw [Array.setIfInBounds_comm _ _ hji]
      exact h3.2.2
def Region.mixB (md : Region.Mode) (ops : Array Oper) : List (Nat × Bool) → Array Bool → Bool
  | [], listed => (Region.ready md ops listed).isEmpty
  | (k, q) :: r, listed => (if q then (Region.ready md ops listed).contains k && Region.free md ops listed k else decide (Region.ready md ops listed = [k])) && Region.mixB md ops r (listed.setIfInBounds k true)
def wpMix (P : Program) (ops : Array Oper) (D : World → Prop) (Q : Act → World → Prop) : List (Nat × Bool) → Act → World → Prop
  | [], a, w => ∀ w', Junk w w' → Q a w'
  | (k, true) :: r, a, w => match ops[k]? with
    | none => False
    | some o => if Region.wanted o (yielded ops a.tmps) then ∃ v, (∀ w, D w → o.quietAt P a (Junk w) w v) ∧ wpMix P ops D Q r (a.put o.dst v) w else wpMix P ops D Q r (a.put o.dst undef) w
  | (k, false) :: r, a, w => ∀ w', Junk w w' → wpE P ops k (fun a' w'' => D w'' ∧ wpMix P ops D Q r a' w'') a w'
theorem wpMix_q {Q : Act → World → Prop} {k : Nat} {r : List (Nat × Bool)} {o : Oper} {a : Act} {w : World} (ho : ops[k]? = some o)
    (h : ∀ K : Act → Prop, (∀ a, wpMix P ops D Q r a w → K a) → if Region.wanted o (yielded ops a.tmps) then ∃ v, (∀ w, D w → o.quietAt P a (Junk w) w v) ∧ K (a.put o.dst v) else K (a.put o.dst undef)) :
    wpMix P ops D Q ((k, true) :: r) a w := by
  unfold wpMix
  simp only [ho]
  exact h _ (fun _ h => h)
theorem wpMix_e {Q : Act → World → Prop} {k : Nat} {r : List (Nat × Bool)} {o : Oper} {a : Act} {w : World} (ho : ops[k]? = some o)
    (h : ∀ os d, ∀ K : Act → World → Prop, (∀ a w', D w' → wpMix P ops D Q r a w' → K a w') → if Region.wanted o (yielded ops a.tmps) then o.wp P a (w.junk os d) K NoExit else K (a.put o.dst undef) (w.junk os d)) :
    wpMix P ops D Q ((k, false) :: r) a w := by
  unfold wpMix
  rintro w' ⟨os, d, rfl⟩
  unfold wpE
  simp only [ho]
  exact h os d _ (fun _ _ hd h => ⟨hd, h⟩)
theorem wpMix_nil {Q : Act → World → Prop} {a : Act} {w : World} (h : ∀ os d, Q a (w.junk os d)) : wpMix P ops D Q [] a w := by
  rintro w' ⟨os, d, rfl⟩
  exact h os d
theorem wpAnyD_mix (hcl : ∀ w w', D w → Junk w w' → D w') {Q : Act → World → Prop} (hsel : Region.noSelect ops = true) : ∀ (π : List (Nat × Bool)) (listed : Array Bool) (a : Act) (w : World),
    Region.mixB md ops π listed = true → D w → wpMix P ops D Q π a w → wpAnyD P md ops D Q π.length listed a w
  | [], _, _, _, hB, _, h => ⟨by simpa [Region.mixB] using hB, h⟩
  | (k, true) :: r, listed, a, w, hB, hD, h => by
    simp only [Region.mixB, if_true, Bool.and_eq_true] at hB
    obtain ⟨⟨hr, hf⟩, hB'⟩ := hB
    unfold wpMix at h
    split at h
    · exact h.elim
    · rename_i o ho
      have hk : ∃ v, YieldsJ P ops D o v a ∧ wpMix P ops D Q r (a.put o.dst v) w := by
        split at h
        · rename_i hw; obtain ⟨v, h1, h2⟩ := h; exact ⟨v, .inl ⟨hw, h1⟩, h2⟩
        · rename_i hw; exact ⟨undef, .inr ⟨by simpa using hw, rfl⟩, h⟩
      obtain ⟨v, hy, h2⟩ := hk
      exact wpAnyD_first hcl ho (Region.noSelect_spec hsel) r.length listed a w (Region.free_spec ho hf) (by simpa using hr) hy hD (wpAnyD_mix hcl hsel r _ _ w hB' hD h2)
  | (k, false) :: r, listed, a, w, hB, hD, h => by
    simp only [Region.mixB, Bool.false_eq_true, if_false, Bool.and_eq_true, decide_eq_true_eq] at hB
    obtain ⟨hr, hB'⟩ := hB
    unfold wpMix at h
    refine ⟨fun h0 => (by rw [hr] at h0; cases h0), fun i hi w' hw' => ?_⟩
    rw [hr] at hi
    obtain rfl : i = k := by simpa using hi
    exact wpE_mono (fun a' w'' h' => ⟨h'.1, wpAnyD_mix hcl hsel r _ a' w'' hB' h'.1 h'.2⟩) (h w' hw')
theorem wp_region_mix {id : Nat} {Q : Exit → Act → World → Prop} {a : Act} {w : World} {l : List Oper} (D : World → Prop) (π : List (Nat × Bool)) (hm : P.follows .mixedOrders = true)
    (hB : (Region.noSelect l.toArray && decide (π.length = l.length) && Region.mixB .any l.toArray π (Array.replicate l.length false)) = true)
    (hcl : ∀ w w', D w → Junk w w' → D w') (hD : D w.drew) (h : wpMix P l.toArray D (fun a' w' => Q .normal a' w') π a w.drew) : (Code.region id l.toArray true).wp P Q a w := by
  simp only [Bool.and_eq_true, decide_eq_true_eq] at hB
  refine wp_region_any hm (wpAny_of_D (D := D) (Q := fun a' w' => Q .normal a' w') (fun _ _ h => h) _ _ _ _ ?_)
  have := wpAnyD_mix (P := P) (md := .any) hcl hB.1.1 π _ a w.drew hB.2 hD h
  rw [hB.1.2] at this
  simpa using this
def InJunk (w w' : World) : Prop := ∃ x : Jk, w' = w.junk x.os x.d
theorem InJunk.on {w w1 w2 : World} (h : InJunk w w1) (hj : Junk w1 w2) : InJunk w w2 := by
  obtain ⟨⟨os, d⟩, rfl⟩ := h
  obtain ⟨os', d', rfl⟩ := hj
  exact ⟨⟨os ++ os', d'⟩, by simp⟩
theorem InJunk.of {w w1 : World} (h : Junk w w1) : InJunk w w1 := by obtain ⟨os, d, rfl⟩ := h; exact ⟨⟨os, d⟩, rfl⟩
theorem wp_region_mixj {id : Nat} {Q : Exit → Act → World → Prop} {a : Act} {w : World} {l : List Oper} (W0 : World) (π : List (Nat × Bool)) (hm : P.follows .mixedOrders = true)
    (hB : (Region.noSelect l.toArray && decide (π.length = l.length) && Region.mixB .any l.toArray π (Array.replicate l.length false)) = true) (hj : Junk W0 w)
    (h : wpMix P l.toArray (fun w' => ∃ x : Jk, w' = W0.junk x.os x.d) (fun a' w' => Q .normal a' w') π a w.drew) : (Code.region id l.toArray true).wp P Q a w :=
  wp_region_mix _ π hm hB (fun _ _ h1 h2 => InJunk.on (w := W0) h1 h2) hj.drew.pair h
structure Jk3 where
  cur : Array Value
  os : Array Obj
  d : Nat
theorem Junk.app (w : World) (os os' : Array Obj) (d d' : Nat) : Junk (w.junk os d) (w.junk (os ++ os') d') := ⟨os', d', by simp⟩
theorem wpMix_e1 {ops : Array Oper} {D : World → Prop} {Q : Act → World → Prop} {k : Nat} {r : List (Nat × Bool)} {o : Oper} {a : Act} {w : World} (ho : ops[k]? = some o) (hg : o.guard = none)
    (h : ∀ os d, ∀ K : Act → World → Prop, (∀ a w', D w' → wpMix P ops D Q r a w' → K a w') → o.wp P a (w.junk os d) K NoExit) :
    wpMix P ops D Q ((k, false) :: r) a w :=
  wpMix_e ho fun os d K hK => by
    have hw : Region.wanted o (yielded ops a.tmps) = true := by simp [Region.wanted, hg]
    rw [if_pos hw]
    exact h os d K hK
end
end Go
namespace Go
theorem wrapk_i64 (n : Int) (h0 : 0 ≤ n) (h1 : n < 2 ^ 63) : IntKind.i64.wrap n = n := by rw [IntKind.wrap_i64]; omega
theorem wrapk_u64 (n : Int) (h0 : 0 ≤ n) (h1 : n < 2 ^ 64) : IntKind.u64.wrap n = n := by rw [IntKind.wrap_u64]; omega
theorem wrapk_u32 (n : Int) (h0 : 0 ≤ n) (h1 : n < 2 ^ 32) : IntKind.u32.wrap n = n := by rw [IntKind.wrap_u32]; omega
theorem wrapk_u16 (n : Int) (h0 : 0 ≤ n) (h1 : n < 2 ^ 16) : IntKind.u16.wrap n = n := by rw [IntKind.wrap_u16]; omega
theorem wrapk_u8 (n : Int) (h0 : 0 ≤ n) (h1 : n < 2 ^ 8) : IntKind.u8.wrap n = n := by rw [IntKind.wrap_u8]; omega
theorem and_i64_13 (x : Int) (h0 : 0 ≤ x) (h1 : x < 9223372036854775808) : bits .and .i64 x 8191 = x % 8192 := bits_mask .i64 63 (by decide) wrapk_i64 13 (by decide) x h0 (by simpa using h1)
theorem and_u64_1 (x : Int) (h0 : 0 ≤ x) (h1 : x < 18446744073709551616) : bits .and .u64 x 1 = x % 2 := bits_mask .u64 64 (by decide) wrapk_u64 1 (by decide) x h0 (by simpa using h1)
theorem and_u64_16 (x : Int) (h0 : 0 ≤ x) (h1 : x < 18446744073709551616) : bits .and .u64 x 65535 = x % 65536 := bits_mask .u64 64 (by decide) wrapk_u64 16 (by decide) x h0 (by simpa using h1)
theorem and_u32_16 (x : Int) (h0 : 0 ≤ x) (h1 : x < 4294967296) : bits .and .u32 x 65535 = x % 65536 := bits_mask .u32 32 (by decide) wrapk_u32 16 (by decide) x h0 (by simpa using h1)
theorem and_u8_4 (x : Int) (h0 : 0 ≤ x) (h1 : x < 256) : bits .and .u8 x 15 = x % 16 := bits_mask .u8 8 (by decide) wrapk_u8 4 (by decide) x h0 (by simpa using h1)
theorem and_bit (i : Nat) (hi : i < 63) (x : Int) (h0 : 0 ≤ x) (h1 : x < 9223372036854775808) : bits .and .i64 x (2 ^ i) = x / 2 ^ i % 2 * 2 ^ i := by
  obtain ⟨a, rfl⟩ := Int.eq_ofNat_of_zero_le h0
  have ha : a < 2 ^ 63 := by have : (2 : Nat) ^ 63 = 9223372036854775808 := by decide
                             omega
  have hb : 2 ^ i < 2 ^ 63 := Nat.pow_lt_pow_right (by decide) hi
  have e : ((2 : Int) ^ i) = ((2 ^ i : Nat) : Int) := by simp
  rw [e, (bits_nat .i64 63 (by decide) wrapk_i64 a _ ha hb).1, nat_bit]
  simp
theorem bit_i64_13 (x : Int) (h0 : 0 ≤ x) (h1 : x < 9223372036854775808) : bits .and .i64 x 8192 = x / 8192 % 2 * 8192 := and_bit 13 (by decide) x h0 h1
theorem bit_i64_14 (x : Int) (h0 : 0 ≤ x) (h1 : x < 9223372036854775808) : bits .and .i64 x 16384 = x / 16384 % 2 * 16384 := and_bit 14 (by decide) x h0 h1
theorem or_i64 (i : Nat) (x y : Int) (hx0 : 0 ≤ x) (hx : x % 2 ^ i = 0) (hx1 : x < 9223372036854775808) (hy0 : 0 ≤ y) (hy : y < 2 ^ i) (hy1 : y < 9223372036854775808) : bits .or .i64 x y = x + y :=
  bits_join .i64 63 (by decide) wrapk_i64 i x y hx0 hx (by simpa using hx1) hy0 hy (by simpa using hy1)
theorem or_u32 (i : Nat) (x y : Int) (hx0 : 0 ≤ x) (hx : x % 2 ^ i = 0) (hx1 : x < 4294967296) (hy0 : 0 ≤ y) (hy : y < 2 ^ i) (hy1 : y < 4294967296) : bits .or .u32 x y = x + y :=
  bits_join .u32 32 (by decide) wrapk_u32 i x y hx0 hx (by simpa using hx1) hy0 hy (by simpa using hy1)
theorem or_u16 (i : Nat) (x y : Int) (hx0 : 0 ≤ x) (hx : x % 2 ^ i = 0) (hx1 : x < 65536) (hy0 : 0 ≤ y) (hy : y < 2 ^ i) (hy1 : y < 65536) : bits .or .u16 x y = x + y :=
  bits_join .u16 16 (by decide) wrapk_u16 i x y hx0 hx (by simpa using hx1) hy0 hy (by simpa using hy1)
theorem xor_u16 (x : Int) (h0 : 0 ≤ x) (h1 : x < 65536) : bits .xor .u16 65535 x = 65535 - x := by
  obtain ⟨a, rfl⟩ := Int.eq_ofNat_of_zero_le h0
  have ha : a < 65536 := by omega
  have := u16_xor_nat 65535 a (by decide) ha
  have e : (65535 ^^^ a : Nat) = 65535 - a := by
    have h := BitVec.toNat_not (x := BitVec.ofNat 16 a)
    have h2 : ~~~ (BitVec.ofNat 16 a) = BitVec.allOnes 16 ^^^ BitVec.ofNat 16 a := by rw [BitVec.allOnes_xor]
    rw [h2, BitVec.toNat_xor] at h
    have h3 : (BitVec.ofNat 16 a).toNat = a := by simp; omega
    rw [h3] at h
    exact h
  rw [show ((65535 : Int)) = ((65535 : Nat) : Int) from rfl, this, e]
  omega
end Go
set_option linter.unusedVariables false
set_option maxRecDepth 100000
set_option linter.unusedSimpArgs false
namespace Go.Proofs.YtfhkhnoiolkkdaaGreatDoor
open Go.RowKit
def foldI (n : Int) : Int := if n = 0 then 0 else (n - 1) % 65535 + 1
theorem foldI_step {m : Int} (h : 0 ≤ m) : foldI (m % 65536 + m / 65536) = foldI m := by
  unfold foldI
  by_cases h0 : m = 0
  · subst h0; rfl
  · rw [if_neg h0, if_neg (by omega)]; omega
theorem foldI_small {m : Int} (h : 0 ≤ m) (h2 : m < 65536) : foldI m = m := by
  unfold foldI; split <;> omega
theorem foldI_bd (n : Int) (h : 0 ≤ n) : 0 ≤ foldI n ∧ foldI n ≤ 65535 := by unfold foldI; split <;> omega
set_option maxHeartbeats 400000 in
theorem fold_any (n : Int) (w : World) (h0 : 0 ≤ n) (h1 : n ≤ 9223372036854775807) :
    Calls Tryz.prog 159 #[.int .u64 n] w fun e w' => e = .returned (.int .u16 (foldI n)) ∧ w = w' := by
  go_enter Tryz.func159, Tryz.ntmps159
  go_wp2
  go_loop [0] (fun v => ∃ m : Int, v = .int .u64 m ∧ 0 ≤ m ∧ m ≤ n ∧ foldI m = foldI n) (fun v => (intOf v).toNat)
  case atStart => exact ⟨n, rfl, h0, by omega, rfl⟩
  case round =>
    obtain ⟨m, rfl, h2, h3, h4⟩ := hrel
    have H4 := Lib.hid h4
    clear h4
    have hb := and_u64_16 m h2 (by omega)
    by_cases hs : m < 65536
    · go_wp2
      go_ret
      exact ⟨ret_int (by rw [← H4.out, foldI_small h2 hs]), rfl⟩
    · go_wp2
      exact ⟨⟨_, rfl, by omega, by omega, by rw [foldI_step h2]; exact H4.out⟩, by simp [intOf]; omega⟩
def rawN (xs : Nat → Int) : Nat → Int
  | 0 => 0
  | k + 1 => rawN xs k + if k % 2 = 0 then xs k * 256 else xs k
theorem rawN_bd (xs : Nat → Int) : ∀ k, (∀ i, i < k → 0 ≤ xs i ∧ xs i ≤ 255) → 0 ≤ rawN xs k ∧ rawN xs k ≤ 65280 * k
  | 0, _ => by simp [rawN]
  | k + 1, h => by
    have h1 := rawN_bd xs k (fun i hi => h i (by omega))
    have h2 := h k (by omega)
    simp only [rawN]
    split <;> omega
def sumN (xs : Nat → Int) (n : Nat) : Int := foldI (rawN xs n)
theorem sumN_bd (xs : Nat → Int) (n : Nat) (h : ∀ i, i < n → 0 ≤ xs i ∧ xs i ≤ 255) : 0 ≤ sumN xs n ∧ sumN xs n ≤ 65535 := foldI_bd _ (rawN_bd xs n h).1
set_option maxHeartbeats 400000 in
theorem sum_any (oa : Option Addr) (l c : Nat) (xs : Nat → Int) (w : World) (hl : l ≤ 100000000) (hI : IntsAt w oa l .u8 xs) (hx : ∀ i, i < l → 0 ≤ xs i ∧ xs i ≤ 255) :
    Calls Tryz.prog 93 #[.slice oa l c] w fun e w' => e = .returned (.int .u16 (sumN xs l)) ∧ w = w' := by
  have Hx := Lib.hid hx
  have Hb := Lib.hid (rawN_bd xs)
  have hb0 := rawN_bd xs l hx
  clear hx
  go_enter Tryz.func93, Tryz.ntmps93
  go_wp2
  go_loop [3, 8] (fun v i => ∃ k : Nat, k ≤ l ∧ i = .int .i64 k ∧ v = .int .u64 (rawN xs k)) (fun _ i => l - (intOf i).toNat)
  case atStart => exact ⟨0, Nat.zero_le _, rfl, rfl⟩
  case round =>
    obtain ⟨k, hk, rfl, rfl⟩ := hrel
    have hb1 := Hb.out k (fun i hi => Hx.out i (by omega))
    by_cases hlt : k < l
    · obtain ⟨b, off, rfl, hblk, hc⟩ := hI k hlt
      have hxk := Hx.out k hlt
      have hs : rawN xs (k + 1) = rawN xs k + if k % 2 = 0 then xs k * 256 else xs k := rfl
      have Hs := Lib.hid hs
      clear hs hI
      by_cases he : k % 2 = 0
      · have he2 : ((k : Int) % 2 == 0) = true := by rw [beq_iff_eq]; omega
        go_wp2
        go_round
        case rel => exact ⟨k + 1, by omega, by go_num, by rw [Hs.out, if_pos he]⟩
        case measure => simp [intOf]; omega
      · have he2 : ((k : Int) % 2 == 0) = false := by rw [beq_eq_false_iff_ne]; omega
        go_wp2
        go_round
        case rel => exact ⟨k + 1, by omega, by go_num, by rw [Hs.out, if_neg he]⟩
        case measure => simp [intOf]; omega
    · obtain rfl : k = l := by omega
      go_wp2_with (first | (go_at_call 159; refine (fold_any _ _ (by omega) (by omega)).mono ?_; rintro e w' ⟨rfl, rfl⟩))
      go_ret
      exact ⟨rfl, rfl⟩
set_option maxHeartbeats 400000 in
theorem of_any (oa : Option Addr) (l c : Nat) (xs : Nat → Int) (w : World) (hl : l ≤ 100000000) (hI : IntsAt w oa l .u8 xs) (hx : ∀ i, i < l → 0 ≤ xs i ∧ xs i ≤ 255) :
    Calls Tryz.prog 61 #[.slice oa l c] w fun e w' => e = .returned (.int .u16 (65535 - sumN xs l)) ∧ w = w' := by
  have h1 := sumN_bd xs l hx
  have h2 := xor_u16 (sumN xs l) h1.1 (by omega)
  have Hx := Lib.hid hx
  clear hx
  go_enter Tryz.func61, Tryz.ntmps61
  go_wp2_with (first | (go_at_call 93; refine (sum_any _ _ _ _ _ hl hI Hx.out).mono ?_; rintro e w' ⟨rfl, rfl⟩))
  go_ret
  exact ⟨ret_int h2, rfl⟩
end Go.Proofs.YtfhkhnoiolkkdaaGreatDoor
set_option linter.unusedVariables false
set_option maxRecDepth 100000
namespace Go
open RowKit
def Own (B : Nat) (w : World) (e : TypeId) (size : Nat) (oa : Option Addr) (cap n : Nat) (xs : List Value) : Prop := w.ownsRow B e size (.slice oa n cap) n xs
section
variable {B : Nat} {w w' W0 : World} {e : TypeId} {size : Nat} {oa : Option Addr} {cap n : Nat} {xs : List Value}
theorem Own.nil (B : Nat) (w : World) (e : TypeId) (size : Nat) : Own B w e size none 0 0 [] := World.ownsRow_nil _ _ _ _
theorem Own.len (h : Own B w e size oa cap n xs) : xs.length = n * size := h.1
theorem Own.form (h : Own B w e size oa cap n xs) : (oa = none ∧ n = 0 ∧ cap = 0) ∨ ∃ g cur, oa = some ⟨g, 0, none⟩ ∧ B ≤ g ∧ w.heap[g]? = some (.cells cur e (0, 0)) ∧ n ≤ cap ∧ cap ≤ maxLen ∧ cur.size = cap * size ∧ cur.toList.take (n * size) = xs := by
  rcases h.2 with ⟨h1, h2⟩ | ⟨g, cap', cur, h1, hr⟩
  · simp only [Value.slice.injEq] at h1; exact .inl ⟨h1.1, h2, h1.2.2⟩
  · simp only [Value.slice.injEq, true_and] at h1; obtain ⟨h1, rfl⟩ := h1; exact .inr ⟨g, cur, h1, hr⟩
theorem Own.on (h : Own B w e size oa cap n xs) (hj : Junk w w') : Own B w' e size oa cap n xs := by
  obtain ⟨os, d, rfl⟩ := hj
  refine ⟨h.1, ?_⟩
  rcases h.2 with hn | ⟨g, cap', cur, h1, hb, hg, hr⟩
  · exact .inl hn
  · refine .inr ⟨g, cap', cur, h1, hb, ?_, hr⟩
    rw [World.heap_junk w os d (Array.getElem?_eq_some_iff.1 hg).1]
    exact hg
theorem Own.lower {B' : Nat} (h : Own B w e size oa cap n xs) (hB : B' ≤ B) : Own B' w e size oa cap n xs := by
  refine ⟨h.1, ?_⟩
  rcases h.2 with hn | ⟨g, cap', cur, h1, hb, hg, hr⟩
  · exact .inl hn
  · exact .inr ⟨g, cap', cur, h1, Nat.le_trans hB hb, hg, hr⟩
theorem Own.cells (h : Own B w e size oa cap n xs) : ∀ j u, xs[j]? = some u → ∃ g, oa = some ⟨g, 0, none⟩ ∧ B ≤ g ∧ g < w.heap.size ∧ w.cell? ⟨g, j, none⟩ = some u ∧ w.frozen? ⟨g, j, none⟩ = false := by
  intro j u hu
  rcases h.form with ⟨_, rfl, _⟩ | ⟨g, cur, rfl, hb, hg, _, _, _, ht⟩
  · have := h.len; simp at this; subst this; simp at hu
  · refine ⟨g, rfl, hb, (Array.getElem?_eq_some_iff.1 hg).1, ?_, ?_⟩
    · rw [cell_of_row w g j cur e (0, 0) hg]
      rw [← ht, List.getElem?_take] at hu
      split at hu
      · simpa using hu
      · cases hu
    · simp [World.frozen?, hg]
theorem Own.capLe (h : Own B w e size oa cap n xs) : n ≤ cap ∧ cap ≤ maxLen := by
  rcases h.form with ⟨_, rfl, rfl⟩ | ⟨g, cur, _, _, _, h1, h2, _⟩
  · exact ⟨Nat.le_refl _, Nat.zero_le _⟩
  · exact ⟨h1, h2⟩
theorem Own.ints {k : IntKind} {ys : List Int} (h : Own B w e 1 oa cap n (ys.map (Value.int k))) : IntsAt w oa n k (fun i => ys.getD i 0) := fun i hi => by
  have hl := h.len
  simp at hl
  obtain ⟨g, h1, _, h2, h3, _⟩ := h.cells i (.int k (ys.getD i 0)) (by rw [List.getElem?_map, List.getElem?_eq_getElem (by omega)]; simp [List.getD, List.getElem?_eq_getElem (show i < ys.length by omega)])
  exact ⟨g, 0, h1, h2, by simpa using h3⟩
theorem below_of_grown {row : Option Nat} (hj : Junk W0 w) (hg : w.grownBy w' row) (hr : ∀ k, row = some k → W0.heap.size ≤ k) : Junk W0 w' :=
  Junk.of_below ((hj.below (Nat.le_refl _)).grown hg hj.size hr)
theorem ap_own_wp {P : Program} {o : Oper} {a : Act} {K : Act → World → Prop} {Q : Exit → Act → World → Prop} (s x : Operand) (t : TypeId)
    (ho : o.op = .call { callee := .builtin .append, args := #[s, x], argTypes := #[t, t] })
    (e : TypeId) (z : Value) (size bytes : Nat) (hinfo : (P.info? e).map (fun i => (i.zero, i.size, i.bytes)) = some (some z, size, bytes)) (hzs : z.cells.size = size) (hsz : 0 < size) (ht : P.underlying t = some (.slice e))
    (hj : Junk W0 w) (oa : Option Addr) (cap n : Nat) (xs : List Value) (hs : a.eval s = .slice oa n cap) (hown : Own W0.heap.size w e size oa cap n xs)
    (oc : Option Addr) (m c : Nat) (hx : a.eval x = .slice oc m c) (news : List Value) (hl : news.length = m * size) (hnews : ∀ ad, oc = some ad → ∀ j u, news[j]? = some u → w.cell? (ad.add j) = some u)
    (hnone : oc = none → m = 0 ∧ c = 0) (h1 : ∀ u ∈ news, u.oneCell' = true) (hm : n + m ≤ maxLen) (hb : (n + m) * bytes ≤ 140737488355328)
    (h : ∀ oa' cap' os d, Own W0.heap.size (W0.junk os d) e size oa' cap' (n + m) (xs ++ news) → (oa' = none → oa = none ∧ m = 0) → K (a.put o.dst (.slice oa' (n + m) cap')) (W0.junk os d)) : o.wp P a w K Q := by
  obtain ⟨i, hi, hz0, hz1, hz2⟩ := info_parts hinfo
  cases oc with
  | none =>
    obtain ⟨rfl, rfl⟩ := hnone rfl
    obtain rfl : news = [] := List.eq_nil_of_length_eq_zero (by simpa using hl)
    have hrun := run_append_owned_none (P := P) (w := w) W0.heap.size t o.type e i size ht hi _ n xs hown
    obtain ⟨os, d, rfl⟩ := hj
    have := h oa cap os d (by simpa using hown) (fun h => ⟨h, rfl⟩)
    unfold Oper.wp
    simp only [execOp, ho, resolve, invoke, builtin, hs, hx, List.map_toArray, List.map_cons, List.map_nil, Sem.run_bind, hrun, Sem.run_pure, Result.andThen]
    simpa [Oper.upon] using this
  | some ad =>
    refine wp_append_own w s x t ho W0.heap.size e i z size bytes ht hi hz0 hz1 hz2 hzs hsz _ n xs hs hown ad m c news hx hl (hnews ad rfl) h1 hm hb hj.size ?_
    intro v' w1 hown' hg hiff
    have hj1 : Junk W0 w1 := below_of_grown hj hg (fun k hk => (hown.lt k hk).1)
    obtain ⟨os, d, rfl⟩ := hj1
    rcases hown'.2 with ⟨rfl, h0⟩ | ⟨g, cap', cur, rfl, hr⟩
    · have := h none 0 os d (by unfold Own; rw [h0] at hown' ⊢; exact hown') (fun _ => by have := hiff.1 rfl; simp only [Value.slice.injEq] at this; exact ⟨this.1.1, this.2⟩)
      rw [h0] at this
      exact this
    · exact h _ _ os d hown' (fun h => by cases h)
theorem ap_own {P : Program} {ops : Array Oper} {rest : List Oper} {o : Oper} {a : Act} {Q : Exit → Act → World → Prop} (hgd : o.guard = none) (s x : Operand) (t : TypeId)
    (ho : o.op = .call { callee := .builtin .append, args := #[s, x], argTypes := #[t, t] })
    (e : TypeId) (z : Value) (size bytes : Nat) (hinfo : (P.info? e).map (fun i => (i.zero, i.size, i.bytes)) = some (some z, size, bytes)) (hzs : z.cells.size = size) (hsz : 0 < size) (ht : P.underlying t = some (.slice e))
    (hj : Junk W0 w) (oa : Option Addr) (cap n : Nat) (xs : List Value) (hs : a.eval s = .slice oa n cap) (hown : Own W0.heap.size w e size oa cap n xs)
    (oc : Option Addr) (m c : Nat) (hx : a.eval x = .slice oc m c) (news : List Value) (hl : news.length = m * size) (hnews : ∀ ad, oc = some ad → ∀ j u, news[j]? = some u → w.cell? (ad.add j) = some u)
    (hnone : oc = none → m = 0 ∧ c = 0) (h1 : ∀ u ∈ news, u.oneCell' = true) (hm : n + m ≤ maxLen) (hb : (n + m) * bytes ≤ 140737488355328)
    (h : ∀ oa' cap' os d, Own W0.heap.size (W0.junk os d) e size oa' cap' (n + m) (xs ++ news) → (oa' = none → oa = none ∧ m = 0) → wpList P ops Q rest (a.put o.dst (.slice oa' (n + m) cap')) (W0.junk os d)) : wpList P ops Q (o :: rest) a w :=
  wpList_plain hgd fun K hK => ap_own_wp s x t ho e z size bytes hinfo hzs hsz ht hj oa cap n xs hs hown oc m c hx news hl hnews hnone h1 hm hb fun oa' cap' os d h2 h3 => hK _ _ (h oa' cap' os d h2 h3)
theorem built_cells {w : World} {news : List Value} {e : TypeId} {n : Nat} (hn : n = w.heap.size) : ∀ ad : Addr, some (⟨n, 0, none⟩ : Addr) = some ad → ∀ j u, news[j]? = some u → (w.alloc (.cells news.toArray e)).cell? (ad.add j) = some u := by
  subst hn
  intro ad had j u hu
  cases had
  rw [Addr.add_lit, Nat.zero_add, World.cell?_alloc_new]
  simpa using hu
theorem IntsAt.src {k : IntKind} {ys : Nat → Int} {m : Nat} {oc : Option Addr} (h : IntsAt w oc m k ys) : ∀ ad, oc = some ad → ∀ j u, ((List.range m).map fun i => Value.int k (ys i))[j]? = some u → w.cell? (ad.add j) = some u := by
  intro ad had j u hu
  simp only [List.getElem?_map] at hu
  by_cases hj : j < m
  · rw [List.getElem?_range hj] at hu
    simp only [Option.map_some, Option.some.injEq] at hu
    subst hu
    obtain ⟨b, off, ho, _, hc⟩ := h j hj
    rw [had] at ho
    cases ho
    rw [Addr.add_lit]
    exact hc
  · rw [List.getElem?_eq_none (by simpa using hj)] at hu
    cases hu
end
end Go
set_option linter.unusedVariables false
set_option maxRecDepth 100000
set_option linter.unusedSimpArgs false
namespace Go.Proofs.YtfhkhnoiolkkdaaGreatDoor
open Go.RowKit
end Go.Proofs.YtfhkhnoiolkkdaaGreatDoor
set_option linter.unusedVariables false
set_option maxRecDepth 100000
set_option linter.unusedSimpArgs false
namespace Go.Proofs.YtfhkhnoiolkkdaaGreatDoor
open Go.RowKit
def Fresh (B : Nat) (oa : Option Addr) : Prop := ∀ a, oa = some a → B ≤ a.block
theorem own_fresh {B : Nat} {w : World} {e : TypeId} {size : Nat} {oa : Option Addr} {cap n : Nat} {xs : List Value} (h : Own B w e size oa cap n xs) : Fresh B oa := fun a ha => by
  rcases h.form with ⟨h1, _⟩ | ⟨g, cur, h1, h2, _⟩
  · rw [h1] at ha; cases ha
  · rw [h1] at ha; cases ha; exact h2
theorem Fresh.lower {B B' : Nat} {oa : Option Addr} (h : Fresh B oa) (hB : B' ≤ B) : Fresh B' oa := fun a ha => Nat.le_trans hB (h a ha)
theorem Fresh.nil (B : Nat) : Fresh B none := fun a ha => by cases ha
theorem bts_over {w : World} {cur cur' : Array Value} {t : TypeId} {os os' : Array Obj} {d d' : Nat} {oa : Option Addr} {l c : Nat} {xs : Nat → Int}
    (h : Bts ((w.alloc (.cells cur t)).junk os d) oa l c xs) (hf : Fresh (w.heap.size + 1) oa) (ho : ∃ x, os' = os ++ x) : Bts ((w.alloc (.cells cur' t)).junk os' d') oa l c xs := by
  obtain ⟨x, rfl⟩ := ho
  refine ⟨fun i hi => ?_, h.byte, h.nil, h.le, h.cap⟩
  obtain ⟨b, off, he, hlt, hc⟩ := h.at_ i hi
  have hb := hf _ he
  simp only at hb
  refine ⟨b, off, he, by simp at hlt ⊢; omega, ?_⟩
  rw [← hc]
  apply World.cell?_of_block
  simp only [World.junk, World.alloc]
  rw [← Array.append_assoc, Array.getElem?_append_left (by simp at hlt ⊢; omega), Array.getElem?_append_right (by simp; omega), Array.getElem?_append_right (by simp; omega)]
  simp
def Cloned (w : World) (oa : Option Addr) (l : Nat) (xs : Nat → Int) (e : Ending) (w' : World) : Prop :=
  ∃ oc c, e = .returned (.slice oc l c) ∧ Junk w w' ∧ Bts w' oc l c xs ∧ (oc = none → oa = none) ∧ Fresh w.heap.size oc
theorem bts_sub {w : World} {b off l c : Nat} {xs : Nat → Int} (h : Bts w (some ⟨b, off, none⟩) l c xs) (i j : Nat) (hij : i ≤ j) (hj : j ≤ l) :
    Bts w (if c = i then some ⟨b, off, none⟩ else some ⟨b, off + i, none⟩) (j - i) (c - i) (fun k => xs (i + k)) := by
  have hle := h.le
  have hcap := h.cap
  refine ⟨fun k hk => ?_, fun k hk => h.byte _ (by omega), fun hn => (by split at hn <;> cases hn), by omega, by omega⟩
  obtain ⟨b', off', he, hlt, hc⟩ := h.at_ (i + k) (by omega)
  cases he
  rw [if_neg (by omega)]
  exact ⟨b, off + i, rfl, hlt, by rw [Nat.add_assoc]; exact hc⟩
theorem own_bts {B : Nat} {w : World} {oa : Option Addr} {cap n : Nat} {xs : Nat → Int} (h : Own B w 5 1 oa cap n ((List.range n).map fun i => Value.int .u8 (xs i))) (hx : ∀ i, i < n → 0 ≤ xs i ∧ xs i ≤ 255) : Bts w oa n cap xs := by
  have h2 : Own B w 5 1 oa cap n (((List.range n).map xs).map (Value.int .u8)) := by rw [List.map_map]; exact h
  refine ⟨fun i hi => ?_, hx, ?_, h.capLe.1, h.capLe.2⟩
  · obtain ⟨b, off, h3, h4, h5⟩ := h2.ints i hi
    refine ⟨b, off, h3, h4, ?_⟩
    rw [h5]
    simp [List.getD, hi]
  · intro hn
    rcases h.form with ⟨_, h3, h4⟩ | ⟨g, cur, h3, _⟩
    · exact ⟨h3, h4⟩
    · rw [hn] at h3; cases h3
set_option maxHeartbeats 400000 in
theorem clone_any (oa : Option Addr) (l c : Nat) (xs : Nat → Int) (w : World) (hl : l ≤ 100000000) (hB : Bts w oa l c xs) :
    Calls Tryz.prog 44 #[.slice oa l c] w (Cloned w oa l xs) := by
  cases oa with
  | none =>
    obtain ⟨rfl, rfl⟩ := hB.nil rfl
    have hnil := @Lib.run_eql_slice_nil Tryz.prog
    go_enter Tryz.func44, Tryz.ntmps44
    go_wp2
    go_ret
    exact ⟨_, _, rfl, Junk.refl _, hB, fun _ => rfl, Fresh.nil _⟩
  | some a =>
    have hB2 := Lib.hid hB
    clear hB
    have hne := fun (w : World) => Lib.run_eql_slice_nil (P := Tryz.prog) w 27 5 (some a) l c 0 0 Tryz.underlying27
    go_enter Tryz.func44, Tryz.ntmps44
    go_wp2_with (at_builtin; (refine ap_own (W0 := w) rfl _ _ 27 rfl 5 (.int .u8 0) 1 1 (by kernel_rfl) rfl (by decide) Tryz.underlying27 (by (exact jkc)) _ _ 0 [] rfl (World.ownsRow_made w _ 0 (Nat.le_refl _) (Nat.zero_le _) rfl) _ _ c rfl ((List.range l).map fun i => .int .u8 (xs i)) (by simp; try omega) (hB2.out.at_.on (by (exact jkc))).src (fun h => by cases h) (by simp [Value.oneCell']) (by simp only [maxLen]; omega) (by omega) ?_; intro ob' cap' os' d' hown' hnn))
    rw [List.nil_append, Nat.zero_add] at hown'
    go_ret
    exact ⟨_, _, rfl, by (exact jkc), own_bts hown' hB2.out.byte, fun h => (by cases (hnn h).1), own_fresh hown'⟩

end Go.Proofs.YtfhkhnoiolkkdaaGreatDoor
set_option linter.unusedVariables false
set_option maxRecDepth 100000
set_option linter.unusedSimpArgs false
namespace Go.Proofs.YtfhkhnoiolkkdaaGreatDoor
open Go.RowKit
end Go.Proofs.YtfhkhnoiolkkdaaGreatDoor
set_option linter.unusedVariables false
set_option maxRecDepth 100000
namespace Go.Proofs.YtfhkhnoiolkkdaaGreatDoor
open Go.RowKit
instance : Inhabited Jk3 := ⟨⟨#[], #[], 0⟩⟩
theorem own_made {B : Nat} (w : World) (e : TypeId) (size cap n : Nat) (cur : Array Value) (hn : n = w.heap.size) (hb : B ≤ w.heap.size) (hm : cap ≤ maxLen) (hs : cur.size = cap * size) : Own B (w.alloc (.cells cur e)) e size (some ⟨n, 0, none⟩) cap 0 [] := by
  subst hn; exact World.ownsRow_made w cur cap hb hm hs
theorem own_lit {B : Nat} (w : World) (e : TypeId) (n m : Nat) (cur : Array Value) (hn : n = w.heap.size) (hb : B ≤ w.heap.size) (hm : m = cur.size) (hmax : m ≤ maxLen) : Own B (w.alloc (.cells cur e)) e 1 (some ⟨n, 0, none⟩) m m cur.toList := by
  subst hn hm
  refine ⟨by simp, .inr ⟨w.heap.size, cur.size, cur, rfl, hb, heap_alloc_new w _, Nat.le_refl _, hmax, by simp, by rw [Nat.mul_one, ← Array.length_toList, List.take_length]⟩⟩
theorem own_lit' {B : Nat} {w : World} {e : TypeId} {n m : Nat} {cur : Array Value} (os : Array Obj) (d : Nat) (hn : n = w.heap.size) (hb : B ≤ w.heap.size) (hm : m = cur.size) (hmax : m ≤ maxLen) : Own B ((w.alloc (.cells cur e)).junk os d) e 1 (some ⟨n, 0, none⟩) m m cur.toList :=
  (own_lit w e n m cur hn hb hm hmax).on ⟨os, d, rfl⟩
end Go.Proofs.YtfhkhnoiolkkdaaGreatDoor
set_option linter.unusedVariables false
set_option maxRecDepth 100000
set_option linter.unusedSimpArgs false
namespace Go
open Go.RowKit
def rowArr (n : Nat) (xs : Nat → Int) : Array Value := ((List.range n).map fun i => Value.int .u8 (xs i)).toArray
def upd (xs : Nat → Int) (i : Nat) (v : Int) : Nat → Int := fun k => if k = i then v else xs k
def putAt (xs : Nat → Int) (off m : Nat) (ys : Nat → Int) : Nat → Int := fun k => if off ≤ k ∧ k < off + m then ys (k - off) else xs k
theorem upd_same (xs : Nat → Int) (i : Nat) (v : Int) : upd xs i v i = v := by simp [upd]
theorem upd_other (xs : Nat → Int) (i j : Nat) (v : Int) (h : j ≠ i) : upd xs i v j = xs j := by simp [upd, h]
@[simp, go_sem] theorem size_rowArr (n : Nat) (xs : Nat → Int) : (rowArr n xs).size = n := by simp [rowArr]
@[go_sem] theorem rowArr_get (n i : Nat) (xs : Nat → Int) (h : i < n) : (rowArr n xs)[i]? = some (.int .u8 (xs i)) := by simp [rowArr, h]
@[go_sem] theorem rowArr_set (n i : Nat) (xs : Nat → Int) (v : Int) : (rowArr n xs).setIfInBounds i (.int .u8 v) = rowArr n (upd xs i v) := by
  apply Array.ext_getElem?
  intro j
  simp only [rowArr, Array.getElem?_setIfInBounds, List.getElem?_toArray, List.getElem?_map, List.size_toArray, List.length_map, List.length_range]
  by_cases hj : j < n
  · by_cases hij : i = j
    · subst hij; simp [hj, upd]
    · simp [hj, upd, hij, Ne.symm hij]
  · by_cases hij : i = j
    · subst hij; simp [hj]
    · simp [hj, hij]
theorem rowArr_made (n : Nat) : madeCells #[.int .u8 0] n = rowArr n (fun _ => 0) := by
  apply Array.ext_getElem?
  intro j
  simp only [madeCells, rowArr]
  by_cases hj : j < n
  · simp [hj, Nat.mod_one]
  · simp [hj]
theorem rowArr_congr {n : Nat} {xs ys : Nat → Int} (h : ∀ i, i < n → xs i = ys i) : rowArr n xs = rowArr n ys := by
  unfold rowArr
  congr 1
  apply List.map_congr_left
  intro i hi
  rw [h i (by simpa using hi)]
theorem rowArr_splice {n off m : Nat} {xs ys : Nat → Int} (h : off + m ≤ n) :
    ((rowArr n xs).toList.take off ++ (((List.range m).map fun i => Value.int .u8 (ys i)) ++ (rowArr n xs).toList.drop (off + m))).toArray = rowArr n (putAt xs off m ys) := by
  unfold rowArr
  congr 1
  apply List.ext_getElem?
  intro j
  simp only [List.getElem?_append, List.length_take, List.length_map, List.length_range, List.getElem?_take, List.getElem?_map, List.getElem?_drop, putAt]
  have e : min off n = off := by omega
  rw [e]
  by_cases h1 : j < off
  · rw [if_pos h1, if_pos h1]
    by_cases hj : j < n
    · rw [List.getElem?_range hj]; simp; omega
    · omega
  · rw [if_neg h1]
    by_cases h2 : j - off < m
    · rw [if_pos h2, List.getElem?_range h2, List.getElem?_range (by omega : j < n)]
      simp
      omega
    · rw [if_neg h2, show off + m + (j - off - m) = j from by omega]
      by_cases hj : j < n
      · rw [List.getElem?_range hj]; simp; omega
      · simp [hj]
theorem putAt_nil (xs ys : Nat → Int) (off : Nat) : putAt xs off 0 ys = xs := by
  funext k; simp [putAt]; omega
theorem setRow_allocj (w : World) (c c' : Array Value) (t : TypeId) (os : Array Obj) (d : Nat) : ((w.alloc (.cells c t)).junk os d).setRow w.heap.size c' = (w.alloc (.cells c' t)).junk os d := by
  simp only [World.setRow, World.alloc, World.junk]
  congr 1
  apply Array.ext_getElem?
  intro j
  simp only [Array.getElem?_modify, Array.getElem?_append, Array.getElem?_push, Array.size_push]
  by_cases hj : w.heap.size = j
  · subst hj; simp
  · simp [hj, Ne.symm hj]
theorem cp_bytes_wp {P : Program} {o : Oper} {a : Act} {K : Act → World → Prop} {Q : Exit → Act → World → Prop} {w : World} (d s : Operand) (dT sT : TypeId)
    (ho : o.op = .call { callee := .builtin .copy, args := #[d, s], argTypes := #[dT, sT] }) (elem : TypeId) (hu : P.underlying dT = some (.slice elem)) (hsz : (P.info? elem).map (·.size) = some 1)
    (dp sp : Option Addr) (dLen dCap sLen sCap : Nat) (hd : a.eval d = .slice dp dLen dCap) (hs : a.eval s = .slice sp sLen sCap)
    (w0 : World) (n : Nat) (xs : Nat → Int) (t : TypeId) (os : Array Obj) (dd : Nat) (hw : w = (w0.alloc (.cells (rowArr n xs) t)).junk os dd) (off m : Nat) (ys : Nat → Int) (hm : Nat.min sLen dLen = m)
    (hpos : 0 < m → dp = some ⟨w0.heap.size, off, none⟩) (hfit : off + m ≤ n) (hsrc : IntsAt w sp m .u8 ys)
    (h : K (a.put o.dst (goInt m)) ((w0.alloc (.cells (rowArr n (putAt xs off m ys)) t)).junk os dd)) : o.wp P a w K Q := by
  subst hw
  by_cases h0 : m = 0
  · subst h0
    rw [putAt_nil] at h
    have hrun := run_copy_none (P := P) ((w0.alloc (.cells (rowArr n xs) t)).junk os dd) dT sT o.type elem dp sp dLen dCap sLen sCap hu hsz hm
    unfold Oper.wp
    simp [execOp, ho, resolve, invoke, builtin, hd, hs, hrun, Result.andThen]
    exact h
  · obtain ⟨b, o', rfl, _, _⟩ := hsrc 0 (by omega)
    obtain rfl := hpos (by omega)
    have hl : ((List.range m).map fun i => Value.int .u8 (ys i)).length = m := by simp
    have hg : ((w0.alloc (.cells (rowArr n xs) t)).junk os dd).heap[w0.heap.size]? = some (.cells (rowArr n xs) t (0, 0)) := by
      rw [World.heap_junk _ _ _ (by simp)]; exact heap_alloc_new w0 _
    have hrun := run_copy_row (P := P) ((w0.alloc (.cells (rowArr n xs) t)).junk os dd) dT sT o.type elem w0.heap.size off dLen dCap ⟨b, o', none⟩ sLen sCap (rowArr n xs) t ((List.range m).map fun i => Value.int .u8 (ys i)) hu hsz hg (by rw [hl, hm]) (hsrc.src _ rfl) (by rw [hl]; simpa using hfit) (by simp [Value.oneCell'])
    rw [hl, setRow_allocj, List.append_assoc, rowArr_splice hfit] at hrun
    unfold Oper.wp
    simp [execOp, ho, resolve, invoke, builtin, hd, hs, hrun, Result.andThen]
    exact h
theorem then_gen {K : Act → World → Prop} {Q : Exit → Act → World → Prop} {x : Exit} {a : Act} {w : World} {os : Array Obj} {d : Nat} (h : ∀ os d, Exit.then K Q x a (w.junk os d)) : Exit.then K Q x a (w.junk os d) := h os d
theorem ints_row (w : World) (n : Nat) (xs : Nat → Int) (t : TypeId) (g off l : Nat) (hg : g = w.heap.size) (h : off + l ≤ n) : IntsAt (w.alloc (.cells (rowArr n xs) t)) (some ⟨g, off, none⟩) l .u8 (fun i => xs (off + i)) := by
  subst hg
  intro i hi
  refine ⟨w.heap.size, off, rfl, by simp, ?_⟩
  rw [World.cell?_alloc_new, rowArr_get _ _ _ (by omega)]
end Go
set_option linter.unusedVariables false
set_option maxRecDepth 100000
set_option linter.unusedSimpArgs false
namespace Go.Proofs.YtfhkhnoiolkkdaaGreatDoor
open Go.RowKit
structure Ip where
  tos : Int
  id : Int
  df : Bool
  mf : Bool
  off : Int
  ttl : Int
  proto : Int
  src : Int
  dst : Int
  ol : Nat
  opts : Nat → Int
  bl : Nat
  body : Nat → Int
structure IpAt (w : World) (p : Ip) (oo : Option Addr) (oc : Nat) (ob : Option Addr) (bc : Nat) : Prop where
  opts : Bts w oo p.ol oc p.opts
  body : Bts w ob p.bl bc p.body
  src : 0 ≤ p.src ∧ p.src ≤ 4294967295
  dst : 0 ≤ p.dst ∧ p.dst ≤ 4294967295
theorem IpAt.on {w w' : World} {p : Ip} {oo ob : Option Addr} {oc bc : Nat} (h : IpAt w p oo oc ob bc) (hj : Junk w w') : IpAt w' p oo oc ob bc := ⟨h.opts.on hj, h.body.on hj, h.src, h.dst⟩
def withinB (n m : Int) : Bool := decide (0 ≤ n ∧ n ≤ m)
theorem withinB_true {n m : Int} (h : withinB n m = true) : 0 ≤ n ∧ n ≤ m := by simpa [withinB] using h
theorem within_any (n m : Int) (w : World) : Calls Tryz.prog 112 #[.int .i64 n, .int .i64 m] w fun e w' => e = .returned (.bool (withinB n m)) ∧ w = w' := by
  by_cases h1 : 0 ≤ n
  · go_enter Tryz.func112, Tryz.ntmps112
    go_wp2
    go_ret
    exact ⟨ret_bool (by simp [withinB, h1]), rfl⟩
  · go_enter Tryz.func112, Tryz.ntmps112
    go_wp2
    go_ret
    exact ⟨ret_bool (by simp [withinB]; intro; omega), rfl⟩
def piecesB (p : Ip) : Bool := !(p.mf && (decide (p.bl % 8 ≠ 0) || decide (p.bl = 0))) && decide (20 + (p.ol : Int) + p.off + p.bl ≤ 65535)
set_option maxHeartbeats 400000 in
theorem pieces_any (p : Ip) (oo ob : Option Addr) (oc bc : Nat) (w : World) (h1 : p.ol ≤ 100000000) (h2 : p.bl ≤ 100000000) (h3 : 0 ≤ p.off) (h4 : p.off ≤ 65528) :
    Calls Tryz.prog 65 #[.agg #[.int .i64 p.tos, .int .i64 p.id, .bool p.df, .bool p.mf, .int .i64 p.off, .int .i64 p.ttl, .int .i64 p.proto, .int .u32 p.src, .int .u32 p.dst, .slice oo p.ol oc, .slice ob p.bl bc]] w fun e w' => e = .returned (.bool (piecesB p)) ∧ Junk w w' := by
  cases hm : p.mf with
  | false =>
    go_enter Tryz.func65, Tryz.ntmps65
    go_wp2
    go_ret
    exact ⟨ret_bool (by simp [piecesB, hm]), by (exact jkc)⟩
  | true =>
    by_cases h8 : p.bl % 8 = 0
    · have e8 : ((p.bl : Int) % 8 != 0) = false := by rw [bne_eq_false_iff_eq]; omega
      by_cases h0 : p.bl = 0
      · have e0 : ((p.bl : Int) == 0) = true := by rw [beq_iff_eq]; omega
        have E0 := Lib.hid h0
        clear h0 h8
        go_enter Tryz.func65, Tryz.ntmps65
        go_wp2
        go_ret
        exact ⟨ret_bool (by simp [piecesB, hm, E0.out]), by (exact jkc)⟩
      · have e0 : ((p.bl : Int) == 0) = false := by rw [beq_eq_false_iff_ne]; omega
        have E0 := Lib.hid h0
        have E8 := Lib.hid h8
        clear h0 h8
        go_enter Tryz.func65, Tryz.ntmps65
        go_wp2
        go_ret
        exact ⟨ret_bool (by simp [piecesB, hm, E0.out, E8.out]), by (exact jkc)⟩
    · have e8 : ((p.bl : Int) % 8 != 0) = true := by rw [bne_iff_ne]; omega
      have E8 := Lib.hid h8
      clear h8
      go_enter Tryz.func65, Tryz.ntmps65
      go_wp2
      go_ret
      exact ⟨ret_bool (by simp [piecesB, hm, E8.out]), by (exact jkc)⟩
def mayB (p : Ip) : Bool := withinB p.tos 255 && withinB p.ttl 255 && withinB p.proto 255 && withinB p.id 65535 && withinB p.off 65528 && decide (p.off % 8 = 0) && decide (p.ol ≤ 40) && decide (p.ol % 4 = 0) && decide (p.bl ≤ 65535) && piecesB p
set_option maxHeartbeats 1000000 in
theorem may_any (p : Ip) (oo ob : Option Addr) (oc bc : Nat) (w : World) (h1 : p.ol ≤ 100000000) (h2 : p.bl ≤ 100000000) :
    Calls Tryz.prog 57 #[.agg #[.int .i64 p.tos, .int .i64 p.id, .bool p.df, .bool p.mf, .int .i64 p.off, .int .i64 p.ttl, .int .i64 p.proto, .int .u32 p.src, .int .u32 p.dst, .slice oo p.ol oc, .slice ob p.bl bc]] w fun e w' => e = .returned (.bool (mayB p)) ∧ Junk w w' := by
  cases a1 : withinB p.tos 255 with
  | false =>
    go_enter Tryz.func57, Tryz.ntmps57
    go_wp2_with (first | (go_at_call 112; refine (within_any _ _ _).mono ?_; rintro e w' ⟨rfl, rfl⟩))
    go_ret
    exact ⟨ret_bool (by simp [mayB, *]), by (exact jkc)⟩
  | true =>
    cases a2 : withinB p.ttl 255 with
    | false =>
      go_enter Tryz.func57, Tryz.ntmps57
      go_wp2_with (first | (go_at_call 112; refine (within_any _ _ _).mono ?_; rintro e w' ⟨rfl, rfl⟩))
      go_ret
      exact ⟨ret_bool (by simp [mayB, *]), by (exact jkc)⟩
    | true =>
      cases a3 : withinB p.proto 255 with
      | false =>
        go_enter Tryz.func57, Tryz.ntmps57
        go_wp2_with (first | (go_at_call 112; refine (within_any _ _ _).mono ?_; rintro e w' ⟨rfl, rfl⟩))
        go_ret
        exact ⟨ret_bool (by simp [mayB, *]), by (exact jkc)⟩
      | true =>
        cases a4 : withinB p.id 65535 with
        | false =>
          go_enter Tryz.func57, Tryz.ntmps57
          go_wp2_with (first | (go_at_call 112; refine (within_any _ _ _).mono ?_; rintro e w' ⟨rfl, rfl⟩))
          go_ret
          exact ⟨ret_bool (by simp [mayB, *]), by (exact jkc)⟩
        | true =>
          cases a5 : withinB p.off 65528 with
          | false =>
            go_enter Tryz.func57, Tryz.ntmps57
            go_wp2_with (first | (go_at_call 112; refine (within_any _ _ _).mono ?_; rintro e w' ⟨rfl, rfl⟩))
            go_ret
            exact ⟨ret_bool (by simp [mayB, *]), by (exact jkc)⟩
          | true =>
            have b5 := withinB_true a5
            obtain ⟨b6, b7⟩ := b5
            by_cases h8 : p.off % 8 = 0
            case neg =>
              have e8 : (p.off % 8 != 0) = true := by rw [bne_iff_ne]; omega
              have E8 := Lib.hid h8
              clear h8
              go_enter Tryz.func57, Tryz.ntmps57
              go_wp2_with (first | (go_at_call 112; refine (within_any _ _ _).mono ?_; rintro e w' ⟨rfl, rfl⟩))
              go_ret
              exact ⟨ret_bool (by simp [mayB, E8.out]), by (exact jkc)⟩
            have e8 : (p.off % 8 != 0) = false := by rw [bne_eq_false_iff_eq]; omega
            have E8 := Lib.hid h8
            clear h8
            by_cases h9 : p.ol ≤ 40
            case neg =>
              go_enter Tryz.func57, Tryz.ntmps57
              go_wp2_with (first | (go_at_call 112; refine (within_any _ _ _).mono ?_; rintro e w' ⟨rfl, rfl⟩))
              go_ret
              exact ⟨ret_bool (by simp [mayB, h9]), by (exact jkc)⟩
            by_cases h10 : p.ol % 4 = 0
            case neg =>
              have e10 : ((p.ol : Int) % 4 == 0) = false := by rw [beq_eq_false_iff_ne]; omega
              have E10 := Lib.hid h10
              clear h10
              go_enter Tryz.func57, Tryz.ntmps57
              go_wp2_with (first | (go_at_call 112; refine (within_any _ _ _).mono ?_; rintro e w' ⟨rfl, rfl⟩))
              go_ret
              exact ⟨ret_bool (by simp [mayB, E10.out]), by (exact jkc)⟩
            have e10 : ((p.ol : Int) % 4 == 0) = true := by rw [beq_iff_eq]; omega
            have E10 := Lib.hid h10
            clear h10
            by_cases h11 : p.bl ≤ 65535
            case neg =>
              go_enter Tryz.func57, Tryz.ntmps57
              go_wp2_with (first | (go_at_call 112; refine (within_any _ _ _).mono ?_; rintro e w' ⟨rfl, rfl⟩))
              go_ret
              exact ⟨ret_bool (by simp [mayB, h11]), by (exact jkc)⟩
            go_enter Tryz.func57, Tryz.ntmps57
            go_wp2_with (first | (go_at_call 112; refine (within_any _ _ _).mono ?_; rintro e w' ⟨rfl, rfl⟩) | (go_at_call 65; refine (pieces_any p _ _ _ _ _ h1 h2 b6 b7).mono ?_; rintro e w' ⟨rfl, ⟨osj, dj, rfl⟩⟩))
            go_ret
            exact ⟨ret_bool (by simp [mayB, a1, a2, a3, a4, a5, E8.out, h9, E10.out, h11]), by (exact jkc)⟩
theorem or_nats (x y z : Nat) (hx : x < 2 ^ 63) (hy : y < 2 ^ 63) (h : x ||| y = z) : bits .or .i64 (x : Int) (y : Int) = (z : Int) := by
  rw [(bits_nat .i64 63 (by decide) wrapk_i64 x y hx hy).2, h]
theorem nat_or13 (s : Nat) (h : s < 8192) : 2 ^ 13 ||| s = 8192 + s ∧ 2 ^ 14 ||| s = 16384 + s ∧ (16384 + s) ||| 8192 = 24576 + s := by
  have h1 := Nat.two_pow_add_eq_or_of_lt (i := 13) h 1
  have h2 := Nat.two_pow_add_eq_or_of_lt (i := 13) h 2
  have h3 := Nat.two_pow_add_eq_or_of_lt (i := 13) h 3
  refine ⟨by simpa using h1.symm, by simpa using h2.symm, ?_⟩
  simp only [Nat.reducePow, Nat.reduceMul] at h1 h2 h3
  rw [h2, Nat.or_assoc, Nat.or_comm s 8192, ← Nat.or_assoc, show (16384 ||| 8192 : Nat) = 24576 from by decide, h3]
theorem or_bit13 (s : Int) (h0 : 0 ≤ s) (h1 : s < 8192) : bits .or .i64 s 8192 = s + 8192 := by
  obtain ⟨a, rfl⟩ := Int.eq_ofNat_of_zero_le h0
  have ha : a < 8192 := by omega
  have := or_nats a 8192 (8192 + a) (by omega) (by decide) (by rw [Nat.or_comm]; exact (nat_or13 a ha).1)
  rw [show ((8192 : Int)) = ((8192 : Nat) : Int) from rfl, this]; omega
theorem or_bit14 (s : Int) (h0 : 0 ≤ s) (h1 : s < 8192) : bits .or .i64 s 16384 = s + 16384 := by
  obtain ⟨a, rfl⟩ := Int.eq_ofNat_of_zero_le h0
  have ha : a < 8192 := by omega
  have := or_nats a 16384 (16384 + a) (by omega) (by decide) (by rw [Nat.or_comm]; exact (nat_or13 a ha).2.1)
  rw [show ((16384 : Int)) = ((16384 : Nat) : Int) from rfl, this]; omega
theorem or_bit13b (s : Int) (h0 : 0 ≤ s) (h1 : s < 8192) : bits .or .i64 (s + 16384) 8192 = s + 16384 + 8192 := by
  obtain ⟨a, rfl⟩ := Int.eq_ofNat_of_zero_le h0
  have ha : a < 8192 := by omega
  have := or_nats (16384 + a) 8192 (24576 + a) (by omega) (by decide) (nat_or13 a ha).2.2
  rw [show ((a : Int) + 16384) = ((16384 + a : Nat) : Int) from by omega, show ((8192 : Int)) = ((8192 : Nat) : Int) from rfl, this]; omega
def bitsI (p : Ip) : Int := p.off / 8 + (if p.df then 16384 else 0) + if p.mf then 8192 else 0
set_option maxHeartbeats 400000 in
theorem bits_any (p : Ip) (oo ob : Option Addr) (oc bc : Nat) (w : World) (h3 : 0 ≤ p.off) (h4 : p.off ≤ 65528) :
    Calls Tryz.prog 59 #[.agg #[.int .i64 p.tos, .int .i64 p.id, .bool p.df, .bool p.mf, .int .i64 p.off, .int .i64 p.ttl, .int .i64 p.proto, .int .u32 p.src, .int .u32 p.dst, .slice oo p.ol oc, .slice ob p.bl bc]] w fun e w' => e = .returned (.int .i64 (bitsI p)) ∧ Junk w w' := by
  have o1 := or_bit14 (p.off / 8) (by omega) (by omega)
  have o2 := or_bit13 (p.off / 8) (by omega) (by omega)
  have o3 := or_bit13b (p.off / 8) (by omega) (by omega)
  cases hd : p.df <;> cases hm : p.mf
  all_goals
    go_enter Tryz.func59, Tryz.ntmps59
    go_wp2
    go_ret
    exact ⟨ret_int (by simp [bitsI, hd, hm]), by (exact jkc)⟩
set_option maxHeartbeats 400000 in
theorem half_any (g off l c : Nat) (n : Int) (v0 v1 : Value) (w : World) (hl : 2 ≤ l) (hn0 : 0 ≤ n) (hn1 : n ≤ 65535) (hg : g < w.heap.size) (h0 : w.cell? ⟨g, off, none⟩ = some v0) (h1 : w.cell? ⟨g, off + 1, none⟩ = some v1)
    (f0 : w.frozen? ⟨g, off, none⟩ = false) (f1 : w.frozen? ⟨g, off + 1, none⟩ = false) :
    Calls Tryz.prog 58 #[.slice (some ⟨g, off, none⟩) l c, .int .i64 n] w fun e w' => e = .returned (.tuple #[]) ∧ (w.setCell ⟨g, off, none⟩ (.int .u8 (n / 256))).setCell ⟨g, off + 1, none⟩ (.int .u8 (n % 256)) = w' := by
  have q0 := wrapk_u8 (n / 256) (by omega) (by omega)
  have q1 : IntKind.u8.wrap n = n % 256 := by rw [IntKind.wrap_u8]
  go_enter Tryz.func58, Tryz.ntmps58
  go_wp2
  go_end0
  exact ⟨rfl, rfl⟩
theorem get_any (b off l c : Nat) (x0 x1 : Int) (w : World) (hl : 2 ≤ l) (hb : b < w.heap.size) (h0 : w.cell? ⟨b, off, none⟩ = some (.int .u8 x0)) (h1 : w.cell? ⟨b, off + 1, none⟩ = some (.int .u8 x1)) (b0 : 0 ≤ x0 ∧ x0 ≤ 255) (b1 : 0 ≤ x1 ∧ x1 ≤ 255) :
    Calls Tryz.prog 63 #[.slice (some ⟨b, off, none⟩) l c] w fun e w' => e = .returned (.int .i64 (x0 * 256 + x1)) ∧ Junk w w' := by
  have q0 := or_i64 8 (x0 * 256) x1 (by omega) (by omega) (by omega) (by omega) (by omega) (by omega)
  have q1 := wrapk_i64 x0 (by omega) (by omega)
  have q2 := wrapk_i64 x1 (by omega) (by omega)
  have q3 := wrapk_i64 (x0 * 256) (by omega) (by omega)
  have j1 : (1 : Int) < (l : Int) := by omega
  have j0 : (0 : Int) < (l : Int) := by omega
  have i1 : 1 < l := by omega
  have i0 : 0 < l := by omega
  go_enter Tryz.func63, Tryz.ntmps63
  go_wp2
  refine wp_region_junk (by kernel_rfl) (by kernel_rfl) ?_; (repeat (refine wpQuiet_step (fun K hK => ?_); go_simp; first | (refine hK _ ?_; clear hK K) | (apply Exists.intro; refine ⟨fun _ => ?_, hK _ ?_⟩; (first | fail); clear hK K))); refine wpQuiet_nil ?_; rintro _ ⟨⟨osq, dq⟩, rfl⟩
  go_wp2
  go_ret
  exact ⟨rfl, by (exact jkc)⟩
end Go.Proofs.YtfhkhnoiolkkdaaGreatDoor
