/- The configuration in memory, and the lines that set its fields. -/
import Derived.Test.YtcnhlbkdhhjmiaaGreatDoorCfE
import Derived.Test.YtcnhlbkdhhjmiaaGreatDoorBox
set_option linter.unusedVariables false
set_option maxRecDepth 100000
set_option linter.unusedSimpArgs false
namespace Go.Proofs.YtcnhlbkdhhjmiaaGreatDoor
open Go.RowKit
variable {L L' : Nat → Prop} {w w' w'' : World}
def Ro.cells (r : Ro) : List Value := [.int .u32 r.net, .int .i64 r.bits, .int .i64 r.zone, .int .i64 r.mtu]
def Ru.cells (r : Ru) : List Value := [.int .i64 r.fr, .int .i64 r.tt, .int .i64 r.proto, .int .u32 r.src, .int .u32 r.dst, .int .i64 r.srcBits, .int .i64 r.dstBits, .int .i64 r.lo, .int .i64 r.hi, .int .i64 r.action]
def Fo.cells (f : Fo) : List Value := [.int .i64 f.proto, .int .i64 f.port, .int .u32 f.addr, .int .i64 f.tt, .bool f.proxy]
def rosL (l : List Ro) : List Value := l.flatMap Ro.cells
def rusL (l : List Ru) : List Value := l.flatMap Ru.cells
def fosL (l : List Fo) : List Value := l.flatMap Fo.cells
/-- A configuration's value, its slices where they lie. -/
def cfVals (f : Cf) (o0 : Option Addr) (c0 : Nat) (o1 : Option Addr) (c1 : Nat) (o6 : Option Addr) (c6 : Nat) : List Value :=
  [.slice o0 f.routes.length c0, .slice o1 f.rules.length c1, .int .i64 f.outside, .int .u32 f.pub, .int .i64 f.lo, .int .i64 f.hi, .slice o6 f.fwds.length c6, .int .i64 f.tcp, .int .i64 f.other, .int .i64 f.budget]
/-- Its slices are the call's own, in blocks from B on, ahead of R. -/
structure CfOwn (w : World) (B R : Nat) (f : Cf) (o0 : Option Addr) (c0 : Nat) (o1 : Option Addr) (c1 : Nat) (o6 : Option Addr) (c6 : Nat) : Prop where
  r0 : Own B w 49 4 o0 c0 f.routes.length (rosL f.routes)
  r1 : Own B w 54 10 o1 c1 f.rules.length (rusL f.rules)
  r6 : Own B w 40 5 o6 c6 f.fwds.length (fosL f.fwds)
  b0 : ∀ g, o0 = some ⟨g, 0, none⟩ → g < R
  b1 : ∀ g, o1 = some ⟨g, 0, none⟩ → g < R
  b6 : ∀ g, o6 = some ⟨g, 0, none⟩ → g < R
/-- The configuration's block. -/
structure CfAt (w : World) (c B R : Nat) (f : Cf) : Prop where
  ge : 8 ≤ c
  lt : c < B
  box : ∃ o0 c0 o1 c1 o6 c6, Box w c 27 (cfVals f o0 c0 o1 c1 o6 c6) ∧ CfOwn w B R f o0 c0 o1 c1 o6 c6
theorem own_tch {B R : Nat} {e : TypeId} {sz : Nat} {oa : Option Addr} {cap n : Nat} {xs : List Value} (h : Own B w e sz oa cap n xs) (hb : ∀ g, oa = some ⟨g, 0, none⟩ → g < R) (t : Tch L w w') (hL : ∀ k, B ≤ k → k < R → ¬ L k) : Own B w' e sz oa cap n xs := by
  refine ⟨h.1, ?_⟩
  rcases h.2 with hn | ⟨g, cap', cur, h1, hg, hh, hr⟩
  · exact .inl hn
  · refine .inr ⟨g, cap', cur, h1, hg, ?_, hr⟩
    injection h1 with h1
    rw [t.block g (Array.getElem?_eq_some_iff.1 hh).1 (hL g hg (hb g h1))]
    exact hh
theorem CfOwn.tch {B R : Nat} {f : Cf} {o0 o1 o6 : Option Addr} {c0 c1 c6 : Nat} (h : CfOwn w B R f o0 c0 o1 c1 o6 c6) (t : Tch L w w') (hL : ∀ k, B ≤ k → k < R → ¬ L k) : CfOwn w' B R f o0 c0 o1 c1 o6 c6 :=
  ⟨own_tch h.r0 h.b0 t hL, own_tch h.r1 h.b1 t hL, own_tch h.r6 h.b6 t hL, h.b0, h.b1, h.b6⟩
theorem CfAt.tch {c B R : Nat} {f : Cf} (h : CfAt w c B R f) (t : Tch L w w') (hL : ∀ k, k < R → ¬ L k) (hR : B ≤ R) : CfAt w' c B R f := by
  obtain ⟨o0, c0, o1, c1, o6, c6, hb, ho⟩ := h.box
  refine ⟨h.ge, h.lt, o0, c0, o1, c1, o6, c6, ?_, ho.tch t (fun k _ hk => hL k hk)⟩
  show w'.heap[c]? = _
  rw [t.block c hb.lt (hL c (by have := h.lt; omega))]
  exact hb
theorem CfAt.row {c B R r : Nat} {f : Cf} (h : CfAt w c B R f) (t : Tch (· = r) w w') (hr : R ≤ r) (hR : B ≤ R) : CfAt w' c B R f := h.tch t (fun k hk e => by omega) hR
/-- A line's outcome. -/
def LineR (res : Option Cf) (r c B R : Nat) (w' : World) : Prop := ∃ ws' b', RowAt w' R r ws' b' ∧ (match res with
  | some f' => b' = false ∧ ws' = [] ∧ ∃ R', R ≤ R' ∧ CfAt w' c B R' f'
  | none => b' = true ∨ ws' ≠ [])
/-- The words as bytes. -/
def w8s (ws : List ByteArray) : List W8 := ws.map (·.data.toList)
theorem w8s_drop (ws : List ByteArray) (k : Nat) : (w8s ws).drop k = w8s (ws.drop k) := by simp [w8s]
theorem w8s_nil {ws : List ByteArray} : w8s ws = [] ↔ ws = [] := by simp [w8s]
theorem w8s_get (ws : List ByteArray) (k : Nat) : (w8s ws).getD k [] = hdW (ws.drop k) := by
  unfold w8s hdW headB
  rw [List.getD_eq_getElem?_getD, List.getElem?_map, List.head?_drop]
  cases ws[k]? <;> rfl
theorem tail_drop (ws : List ByteArray) (k : Nat) : (ws.drop k).tail = ws.drop (k + 1) := by rw [List.tail_drop]
/-- The fields that a store leaves as they were. -/
theorem CfOwn.same {B R : Nat} {f f' : Cf} {o0 o1 o6 : Option Addr} {c0 c1 c6 : Nat} (h : CfOwn w B R f o0 c0 o1 c1 o6 c6) (e0 : f'.routes = f.routes) (e1 : f'.rules = f.rules) (e6 : f'.fwds = f.fwds) : CfOwn w B R f' o0 c0 o1 c1 o6 c6 :=
  ⟨by rw [e0]; exact h.r0, by rw [e1]; exact h.r1, by rw [e6]; exact h.r6, h.b0, h.b1, h.b6⟩
theorem CfAt.set {c B R : Nat} {f f' : Cf} (h : CfAt w c B R f) (i : Nat) (v : Value) (hR : B ≤ R) (hc : ∀ o0 c0 o1 c1 o6 c6, (cfVals f o0 c0 o1 c1 o6 c6).set i v = cfVals f' o0 c0 o1 c1 o6 c6)
    (e0 : f'.routes = f.routes) (e1 : f'.rules = f.rules) (e6 : f'.fwds = f.fwds) : CfAt (w.setCell ⟨c, i, none⟩ v) c B R f' := by
  obtain ⟨o0, c0, o1, c1, o6, c6, hb, ho⟩ := h.box
  refine ⟨h.ge, h.lt, o0, c0, o1, c1, o6, c6, ?_, ?_⟩
  · rw [← hc]
    exact hb.set i v
  · refine (ho.tch (L := (· = c)) ?_ (fun k hk _ e => by have := h.lt; omega)).same e0 e1 e6
    exact (Tch.refl w).at i v
/-- What a line's method needs. -/
structure LinePre (w : World) (r c B R : Nat) (ws : List ByteArray) (f : Cf) : Prop where
  env : Env w
  row : RowAt w R r ws false
  cf : CfAt w c B R f
  short : ShortW ws
  hR : B ≤ R
theorem RowAt.far {kb r : Nat} {ws : List ByteArray} {bad : Bool} (h : RowAt w kb r ws bad) (t : Tch L w w') (hL : ∀ k, kb ≤ k → ¬ L k) : RowAt w' kb r ws bad := by
  have hr := hL r h.kr
  obtain ⟨oa, cap, h0, h1, h2⟩ := h.c0
  refine ⟨Nat.lt_of_lt_of_le h.lt t.size, h.ge, h.kr, ⟨oa, cap, t.cell h0 hr, h1, fun i x hi => ?_⟩, t.cell h.c1 hr, ?_, ?_⟩
  · obtain ⟨g, o, he, hg, hc⟩ := h2 i x hi
    exact ⟨g, o, he, hg, t.cell hc (hL g hg.2)⟩
  · rw [t.frozen h.lt hr]; exact h.f0
  · rw [t.frozen h.lt hr]; exact h.f1
end Go.Proofs.YtcnhlbkdhhjmiaaGreatDoor
