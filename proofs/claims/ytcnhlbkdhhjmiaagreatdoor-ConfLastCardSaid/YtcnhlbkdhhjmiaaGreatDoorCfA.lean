/- The reader of a line's words: its block, and what its methods leave as it was. -/
import Derived.Test.YtcnhlbkdhhjmiaaGreatDoorCfS
import Derived.Test.YtcnhlbkdhhjmiaaGreatDoorOwn2
import Derived.Test.YtcnhlbkdhhjmiaaGreatDoorBits
import Derived.Test.YtcnhlbkdhhjmiaaGreatDoorMix2
import Derived.Lib.LaidTab
import Derived.Deep.DeepCutAuto
set_option linter.unusedVariables false
set_option maxRecDepth 100000
set_option linter.unusedSimpArgs false
namespace Go.Proofs.YtcnhlbkdhhjmiaaGreatDoor
open Go.RowKit
/-- The world may have changed in the blocks L alone. -/
structure Tch (L : Nat → Prop) (w w' : World) : Prop where
  os : w'.os = w.os
  tape : w'.tape = w.tape
  output : w'.output = w.output
  size : w.heap.size ≤ w'.heap.size
  block : ∀ k, k < w.heap.size → ¬ L k → w'.heap[k]? = w.heap[k]?
variable {L L' : Nat → Prop} {w w' w'' : World}
theorem Tch.refl (w : World) : Tch L w w := ⟨rfl, rfl, rfl, Nat.le_refl _, fun _ _ _ => rfl⟩
theorem Tch.trans (h : Tch L w w') (k : Tch L w' w'') : Tch L w w'' :=
  ⟨k.os.trans h.os, k.tape.trans h.tape, k.output.trans h.output, Nat.le_trans h.size k.size, fun i hi hL => (k.block i (Nat.lt_of_lt_of_le hi h.size) hL).trans (h.block i hi hL)⟩
theorem Tch.mono (h : Tch L w w') (hL : ∀ k, L k → L' k) : Tch L' w w' := ⟨h.os, h.tape, h.output, h.size, fun k hk hn => h.block k hk fun e => hn (hL k e)⟩
theorem Tch.of_below (h : Below w.heap.size w w') : Tch L w w' := ⟨h.os, h.tape, h.output, h.size, fun k hk _ => h.block k hk⟩
theorem Tch.of_junk (h : Junk w w') : Tch L w w' := Tch.of_below (h.below (Nat.le_refl _))
theorem Tch.setCell (h : Tch L w w') {a : Addr} (ha : L a.block) (v : Value) : Tch L w (w'.setCell a v) :=
  ⟨h.os, h.tape, h.output, by simpa [World.setCell] using h.size, fun k hk hn => by
    rw [Below.heap_setCell _ _ _ _ (fun e => hn (by rw [e]; exact ha))]
    exact h.block k hk hn⟩
theorem Tch.at {r : Nat} (h : Tch (· = r) w w') (i : Nat) (v : Value) : Tch (· = r) w (w'.setCell ⟨r, i, none⟩ v) := Tch.setCell (L := (· = r)) (a := ⟨r, i, none⟩) h (show r = r from rfl) v
theorem Tch.cell (h : Tch L w w') {a : Addr} {v : Value} (hc : w.cell? a = some v) (hn : ¬ L a.block) : w'.cell? a = some v := by
  have hlt : a.block < w.heap.size := World.block_lt_of_cell? w a hc
  rw [← hc]
  exact World.cell?_of_block (h.block _ hlt hn)
theorem Tch.below (h : Tch L w w') {B : Nat} (hB : B ≤ w.heap.size) (hL : ∀ k, L k → B ≤ k) : Below B w w' :=
  ⟨h.os, h.tape, h.output, h.size, fun k hk => h.block k (Nat.lt_of_lt_of_le hk hB) fun e => by have := hL k e; omega⟩
/-- The table of powers of ten, as the library's text lays it. -/
def PowT (w : World) : Prop := Lib.TabIs Tryz.prog w "internal/strconv.uint64pow10" .u64 Lib.pow10Tab
/-- What the library's variables hold. -/
structure Env (w : World) : Prop where
  size : 8 ≤ w.heap.size
  pow : PowT w
  syn : ∃ t p, w.cell? ⟨6, 0, none⟩ = some (.iface t p)
  rng : ∃ t p, w.cell? ⟨7, 0, none⟩ = some (.iface t p)
  len : ∃ m, w.cell? ⟨0, 0, none⟩ = some (.int .i64 m)
theorem PowT.of {w w' : World} (h : PowT w) (hk : ∀ g o, Tryz.prog.globalNamed "internal/strconv.uint64pow10" = some g → w.heap[g]? = some o → w'.heap[g]? = some o) : PowT w' := by
  unfold PowT Lib.TabIs World.var? at *
  cases hg : Tryz.prog.globalNamed "internal/strconv.uint64pow10" with
  | none => rw [hg] at h; cases h
  | some g =>
    rw [hg] at h
    simp only [Option.bind_some] at h ⊢
    cases hw : w.heap[g]? with
    | none => rw [hw] at h; cases h
    | some o =>
      rw [hk g o hg hw]
      rw [hw] at h
      exact h
theorem Env.on (h : Env w) (t : Tch L w w') (hL : ∀ k, L k → 8 ≤ k) : Env w' := by
  have hn : ∀ k, k < 8 → ¬ L k := fun k hk e => by have := hL k e; omega
  refine ⟨Nat.le_trans h.size t.size, h.pow.of fun g o hg hw => ?_, ?_, ?_, ?_⟩
  · have h1 : Tryz.prog.globalNamed "internal/strconv.uint64pow10" = some 1 := by kernel_rfl
    rw [h1] at hg
    cases hg
    rw [t.block 1 (Array.getElem?_eq_some_iff.1 hw).1 (hn 1 (by omega)), hw]
  · obtain ⟨a, b, hc⟩ := h.syn
    exact ⟨a, b, t.cell hc (hn 6 (by omega))⟩
  · obtain ⟨a, b, hc⟩ := h.rng
    exact ⟨a, b, t.cell hc (hn 7 (by omega))⟩
  · obtain ⟨m, hc⟩ := h.len
    exact ⟨m, t.cell hc (hn 0 (by omega))⟩
/-- A reader's block: the words that are left, and whether something was bad. -/
structure RowAt (w : World) (kb r : Nat) (ws : List ByteArray) (bad : Bool) : Prop where
  lt : r < w.heap.size
  ge : 8 ≤ r
  kr : kb ≤ r
  c0 : ∃ oa cap, w.cell? ⟨r, 0, none⟩ = some (.slice oa ws.length cap) ∧ ws.length ≤ cap ∧ ∀ i x, ws[i]? = some x → ∃ g o, oa = some ⟨g, o, none⟩ ∧ (g < r ∧ kb ≤ g) ∧ w.cell? ⟨g, o + i, none⟩ = some (.string x)
  c1 : w.cell? ⟨r, 1, none⟩ = some (.bool bad)
  f0 : w.frozen? ⟨r, 0, none⟩ = false
  f1 : w.frozen? ⟨r, 1, none⟩ = false
theorem Tch.frozen (h : Tch L w w') {a : Addr} (hlt : a.block < w.heap.size) (hn : ¬ L a.block) : w'.frozen? a = w.frozen? a := World.frozen?_of_block (h.block _ hlt hn)
theorem RowAt.bad {kb r : Nat} {ws : List ByteArray} {bad : Bool} (h : RowAt w kb r ws bad) (b : Bool) : RowAt (w.setCell ⟨r, 1, none⟩ (.bool b)) kb r ws b := by
  obtain ⟨oa, cap, h0, h1, h2⟩ := h.c0
  refine ⟨by simpa [World.setCell] using h.lt, h.ge, h.kr, ⟨oa, cap, ?_, h1, fun i x hi => ?_⟩, World.cell?_setCell_same _ _ _ h.c1, ?_, ?_⟩
  · rw [World.cell?_setCell_other _ _ _ _ (by simp)]
    exact h0
  · obtain ⟨g, o, he, hg, hc⟩ := h2 i x hi
    refine ⟨g, o, he, hg, ?_⟩
    rw [World.cell?_setCell_other _ _ _ _ (by simp [Nat.ne_of_gt hg.1])]
    exact hc
  · rw [World.frozen?_setCell]; exact h.f0
  · rw [World.frozen?_setCell]; exact h.f1
theorem RowAt.tail {kb r : Nat} {x : ByteArray} {t : List ByteArray} {bad : Bool} (h : RowAt w kb r (x :: t) bad) {g o n cap : Nat} (he : w.cell? ⟨r, 0, none⟩ = some (.slice (some ⟨g, o, none⟩) (n + 1) cap)) (hn : t.length = n) (oa : Option Addr) (cap' : Nat)
    (hO : n ≠ 0 → oa = some ⟨g, o + 1, none⟩) (hc : n ≤ cap') : RowAt (w.setCell ⟨r, 0, none⟩ (.slice oa n cap')) kb r t bad := by
  obtain ⟨oa1, cap1, h0, h1, h2⟩ := h.c0
  rw [he] at h0
  injection h0 with h0
  injection h0 with h0 h01 h02
  subst h0
  refine ⟨by simpa [World.setCell] using h.lt, h.ge, h.kr, ⟨oa, cap', ?_, by omega, fun i y hi => ?_⟩, ?_, ?_, ?_⟩
  · rw [hn]
    exact World.cell?_setCell_same _ _ _ he
  · have hlt := (List.getElem?_eq_some_iff.1 hi).1
    obtain ⟨g1, o1, e1, hg, hc1⟩ := h2 (i + 1) y (by simpa using hi)
    cases e1
    refine ⟨g, o + 1, hO (by omega), hg, ?_⟩
    rw [World.cell?_setCell_other _ _ _ _ (by simp [Nat.ne_of_gt hg.1]), show o + 1 + i = o + (i + 1) by omega]
    exact hc1
  · rw [World.cell?_setCell_other _ _ _ _ (by simp)]
    exact h.c1
  · rw [World.frozen?_setCell]; exact h.f0
  · rw [World.frozen?_setCell]; exact h.f1
def headB (ws : List ByteArray) : ByteArray := ws.head?.getD ⟨#[]⟩
set_option maxHeartbeats 2000000 in
theorem next_any {kb : Nat} (r : Nat) (ws : List ByteArray) (bad : Bool) (w : World) (h : RowAt w kb r ws bad) :
    Calls Tryz.prog 60 #[.pointer (some ⟨r, 0, none⟩)] w fun e w' => e = .returned (.string (headB ws)) ∧ RowAt w' kb r ws.tail (bad || ws.isEmpty) ∧ Tch (· = r) w w' := by
  have HR := Lib.hid h
  obtain ⟨oa, cap, h0, hcap, hs⟩ := h.c0
  have h1 := h.c1
  have hf0 := h.f0
  have hf1 := h.f1
  cases ws with
  | nil =>
    have e0 : w.cell? ⟨r, 0, none⟩ = some (.slice oa 0 cap) := h0
    clear h h0 hs
    go_enter Tryz.func60, Tryz.ntmps60
    go_wp2
    go_ret
    exact ⟨rfl, by simpa using HR.out.bad true, (Tch.refl w).at 1 _⟩
  | cons x t =>
    obtain ⟨g, o, rfl, ⟨hgr, hgk⟩, hx⟩ := hs 0 x rfl
    have hg : g ≠ r := Nat.ne_of_lt hgr
    obtain ⟨n, hn⟩ : ∃ n, t.length = n := ⟨_, rfl⟩
    have e0 : w.cell? ⟨r, 0, none⟩ = some (.slice (some ⟨g, o, none⟩) ((n + 1 : Nat) : Int).toNat cap) := by rw [h0, List.length_cons, hn]; rfl
    have HH := Lib.hid hs
    have HN := Lib.hid hn
    rw [List.length_cons, hn] at hcap
    have HT := Lib.hid (fun oa cap' hO hc => h.tail (g := g) (o := o) (n := n) (cap := cap) e0 hn oa cap' hO hc)
    clear h h0 hs hn
    simp at e0 hx
    go_enter Tryz.func60, Tryz.ntmps60
    go_wp2
    all_goals go_ret
    all_goals refine ⟨rfl, ?_, (Tch.refl w).at 0 _⟩
    all_goals (refine HT.out _ _ (fun hz => ?_) (by omega); first | rfl | omega)
end Go.Proofs.YtcnhlbkdhhjmiaaGreatDoor
