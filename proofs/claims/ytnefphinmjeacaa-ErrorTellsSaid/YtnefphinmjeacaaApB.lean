/- Appending bytes to a slice of the call's own, told by what it will hold in the end. -/
import Derived.Test.YtnefphinmjeacaaOwn2
import Derived.Test.YtnefphinmjeacaaMix
set_option linter.unusedVariables false
set_option maxRecDepth 100000
set_option linter.unusedSimpArgs false
namespace Go.Proofs.Ytnefphinmjeacaa
open Go.RowKit
def bz (n : Nat) (zs : Nat → Int) : List Value := (List.range n).map fun i => Value.int .u8 (zs i)
/-- A slice of bytes of the call's own: its first n bytes are those of 'zs'. -/
def OwB (B : Nat) (w : World) (oa : Option Addr) (cap n : Nat) (zs : Nat → Int) : Prop := Own B w 5 1 oa cap n (bz n zs)
theorem bz_congr {n : Nat} {xs ys : Nat → Int} (h : ∀ i, i < n → xs i = ys i) : bz n xs = bz n ys := by
  unfold bz
  apply List.map_congr_left
  intro i hi
  rw [h i (by simpa using hi)]
theorem bz_add (n m : Nat) (zs : Nat → Int) : bz n zs ++ bz m (fun j => zs (n + j)) = bz (n + m) zs := by
  unfold bz
  rw [List.range_add, List.map_append, List.map_map]
  rfl
theorem bz1 {zs : Nat → Int} {a : Int} (h0 : zs 0 = a) : [Value.int .u8 a] = bz 1 zs := by subst h0; rfl
theorem bz2 {zs : Nat → Int} {a b : Int} (h0 : zs 0 = a) (h1 : zs 1 = b) : [Value.int .u8 a, .int .u8 b] = bz 2 zs := by subst h0 h1; rfl
theorem bz4 {zs : Nat → Int} {a b c d : Int} (h0 : zs 0 = a) (h1 : zs 1 = b) (h2 : zs 2 = c) (h3 : zs 3 = d) : [Value.int .u8 a, .int .u8 b, .int .u8 c, .int .u8 d] = bz 4 zs := by subst h0 h1 h2 h3; rfl
theorem bz8 {zs : Nat → Int} {a b c d a' b' c' d' : Int} (h0 : zs 0 = a) (h1 : zs 1 = b) (h2 : zs 2 = c) (h3 : zs 3 = d) (h4 : zs 4 = a') (h5 : zs 5 = b') (h6 : zs 6 = c') (h7 : zs 7 = d') : [Value.int .u8 a, .int .u8 b, .int .u8 c, .int .u8 d, .int .u8 a', .int .u8 b', .int .u8 c', .int .u8 d'] = bz 8 zs := by subst h0 h1 h2 h3 h4 h5 h6 h7; rfl
section
variable {B : Nat} {w w' W0 : World} {oa : Option Addr} {cap n : Nat} {zs : Nat → Int}
theorem OwB.on (h : OwB B w oa cap n zs) (hj : Junk w w') : OwB B w' oa cap n zs := Own.on h hj
theorem OwB.lower {B' : Nat} (h : OwB B w oa cap n zs) (hB : B' ≤ B) : OwB B' w oa cap n zs := Own.lower h hB
theorem OwB.congr {ys : Nat → Int} (h : OwB B w oa cap n zs) (he : ∀ i, i < n → zs i = ys i) : OwB B w oa cap n ys := by unfold OwB; rw [← bz_congr he]; exact h
theorem OwB.nil (B : Nat) (w : World) (zs : Nat → Int) : OwB B w none 0 0 zs := Own.nil _ _ _ _
theorem OwB.ints (h : OwB B w oa cap n zs) : IntsAt w oa n .u8 zs := by
  have h2 : Own B w 5 1 oa cap n (((List.range n).map zs).map (Value.int .u8)) := by rw [List.map_map]; exact h
  intro i hi
  obtain ⟨b, off, h3, h4, h5⟩ := h2.ints i hi
  refine ⟨b, off, h3, h4, ?_⟩
  rw [h5]
  simp [List.getD, hi]
theorem OwB.isNil (h : OwB B w oa cap n zs) (hn : oa = none) : n = 0 ∧ cap = 0 := by
  rcases Own.form h with ⟨_, h1, h2⟩ | ⟨g, cur, h1, _⟩
  · exact ⟨h1, h2⟩
  · rw [h1] at hn; cases hn
theorem OwB.bts (h : OwB B w oa cap n zs) (hx : ∀ i, i < n → 0 ≤ zs i ∧ zs i ≤ 255) : Bts w oa n cap zs := ⟨h.ints, hx, fun hn => h.isNil hn, (Own.capLe h).1, (Own.capLe h).2⟩
theorem OwB.lit (Y : World) (g m : Nat) (cur : Array Value) (hg : g = Y.heap.size) (hb : B ≤ Y.heap.size) (hm : m = cur.size) (hmax : m ≤ maxLen) (hc : cur.toList = bz m zs) : OwB B (Y.alloc (.cells cur 5)) (some ⟨g, 0, none⟩) m m zs := by
  unfold OwB
  rw [← hc]
  exact own_lit Y _ g m cur hg hb hm hmax
theorem alloc_ints (Y : World) (cur : Array Value) (t : TypeId) (g : Nat) (hg : g = Y.heap.size) (m : Nat) (f : Nat → Int) (h : cur.toList = bz m f) : IntsAt (Y.alloc (.cells cur t)) (some ⟨g, 0, none⟩) m .u8 f := by
  subst hg
  intro i hi
  refine ⟨_, 0, rfl, by rw [World.size_alloc]; omega, ?_⟩
  rw [World.cell?_alloc_new, Nat.zero_add]
  have : cur.toList[i]? = some (.int .u8 (f i)) := by rw [h]; unfold bz; rw [List.getElem?_map, List.getElem?_range hi]; rfl
  simpa using this
theorem alloc_ints2 (Y : World) (cur : Array Value) (t : TypeId) (g : Nat) (hg : g = Y.heap.size) (m : Nat) (f : Nat → Int) (os : Array Obj) (d : Nat) (h : cur.toList = bz m f) : IntsAt ((Y.alloc (.cells cur t)).junk os d) (some ⟨g, 0, none⟩) m .u8 f :=
  (alloc_ints Y cur t g hg m f h).on ⟨os, d, rfl⟩
theorem ints_congr {oc : Option Addr} {m : Nat} {k : IntKind} {xs ys : Nat → Int} (h : IntsAt w oc m k xs) (he : ∀ i, i < m → xs i = ys i) : IntsAt w oc m k ys := fun i hi => by rw [← he i hi]; exact h i hi
theorem ap_bz_wp {o : Oper} {a : Act} {K : Act → World → Prop} {Q : Exit → Act → World → Prop} (s x : Operand)
    (ho : o.op = .call { callee := .builtin .append, args := #[s, x], argTypes := #[23, 23] })
    (hj : Junk W0 w) (oa : Option Addr) (cap n : Nat) (zs : Nat → Int) (hs : a.eval s = .slice oa n cap) (hown : OwB W0.heap.size w oa cap n zs)
    (oc : Option Addr) (m c : Nat) (hx : a.eval x = .slice oc m c) (hsrc : IntsAt w oc m .u8 (fun j => zs (n + j))) (hnone : oc = none → m = 0 ∧ c = 0) (hm : n + m ≤ 140737488355328)
    (h : ∀ oa' cap' os d, OwB W0.heap.size (W0.junk os d) oa' cap' (n + m) zs → (oa' = none → oa = none ∧ m = 0) → K (a.put o.dst (.slice oa' (n + m) cap')) (W0.junk os d)) : o.wp Try.prog a w K Q :=
  ap_own_wp s x 23 ho 5 (.int .u8 0) 1 1 (by kernel_rfl) rfl (by decide) Try.underlying23 hj oa cap n (bz n zs) hs hown oc m c hx (bz m (fun j => zs (n + j))) (by simp [bz]) hsrc.src hnone
    (by intro u hu; unfold bz at hu; obtain ⟨i, _, rfl⟩ := List.mem_map.1 hu; rfl) (by simp only [maxLen]; omega) (by omega) fun oa' cap' os d h2 h3 => h oa' cap' os d (by unfold OwB; rw [← bz_add]; exact h2) h3
theorem ap_bz {ops : Array Oper} {rest : List Oper} {o : Oper} {a : Act} {Q : Exit → Act → World → Prop} (hgd : o.guard = none) (s x : Operand)
    (ho : o.op = .call { callee := .builtin .append, args := #[s, x], argTypes := #[23, 23] })
    (hj : Junk W0 w) (oa : Option Addr) (cap n : Nat) (zs : Nat → Int) (hs : a.eval s = .slice oa n cap) (hown : OwB W0.heap.size w oa cap n zs)
    (oc : Option Addr) (m c : Nat) (hx : a.eval x = .slice oc m c) (hsrc : IntsAt w oc m .u8 (fun j => zs (n + j))) (hnone : oc = none → m = 0 ∧ c = 0) (hm : n + m ≤ 140737488355328)
    (h : ∀ oa' cap' os d, OwB W0.heap.size (W0.junk os d) oa' cap' (n + m) zs → (oa' = none → oa = none ∧ m = 0) → wpList Try.prog ops Q rest (a.put o.dst (.slice oa' (n + m) cap')) (W0.junk os d)) : wpList Try.prog ops Q (o :: rest) a w :=
  wpList_plain hgd fun K hK => ap_bz_wp s x ho hj oa cap n zs hs hown oc m c hx hsrc hnone hm fun oa' cap' os d h2 h3 => hK _ _ (h oa' cap' os d h2 h3)
end
end Go.Proofs.Ytnefphinmjeacaa
